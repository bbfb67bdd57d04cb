/- The law ParserParse returns true for every input, and its arguments read afterwards as before: the row's statement and its card. The row lists tables of the library; the card ties them to the program's text. -/
import Derived.Test.YtpmnbcdjoomgcaaGreatDoorCards
import Derived.Test.YtpmnbcdjoomgcaaGreatDoorTie
import Derived.Test.YtpmnbcdjoomgcaaGreatDoorQPLawPPar
import Derived.WalkKit
import Derived.ProofKit
import Derived.OpenShut
import Derived.ShutString
import Derived.ChangeOld
import Derived.Below
import Derived.Deep.DeepHandedRow
import Derived.Lib.LaidTab
set_option linter.unusedVariables false
set_option linter.unusedSimpArgs false
namespace Go.Proofs.YtpmnbcdjoomgcaaGreatDoor.parserParse
open Go.ChangeShapes Go.WideShapes Go.ChangeAt Go.RowKit
open Go.ChangeMaps (open_string shut_string)

theorem own:ownKnob Tryz.prog.godebug=none:=by kernel_rfl
theorem laidOut:laidOutB Tryz.prog=true:=by kernel_rfl
theorem gPow:Tryz.prog.globalNamed "internal/strconv.uint64pow10" =some 1:=by kernel_rfl
theorem gPowType:(Tryz.prog.globals[1]?).map (·.type)=some 152:=by kernel_rfl
theorem cellsPow:Tryz.prog.cellsOf 152=20:=by kernel_rfl
theorem cellsWord:Tryz.prog.cellsOf 146=1:=by kernel_rfl
theorem formPow:(Rows.laid_internal_strconv_uint64pow10:DataW Unit)=Lib.tabData .u64 Lib.pow10Tab:=by rfl
theorem gKin:Tryz.prog.globalNamed "worldmint/lexer.kinds" =some 0:=by kernel_rfl
theorem gKinType:(Tryz.prog.globals[0]?).map (·.type)=some 144:=by kernel_rfl
theorem cellsKin:Tryz.prog.cellsOf 144=128:=by kernel_rfl
theorem cellsByte:Tryz.prog.cellsOf 5=1:=by kernel_rfl
theorem formKin:(Rows.laid_worldmint_lexer_kinds:DataW Unit)=Lib.tabData .u8 kindsL:=by rfl

theorem table{W:World}(h:laidMetH Tryz.prog Rows.parserParseRow.laid W):qCp W:=by
 have h':laidMet Tryz.prog Rows.parserParseRow.laid W:=h;obtain⟨ps,hv,-⟩:=h';have hv':DataW.LaidVars Tryz.prog W Rows.parserParseRow.laid ps:=hv;obtain⟨_,_,_,_,_,q0,_,_,_,_,hv1,_⟩:=hv';obtain⟨_,_,_,_,_,q1,_,_,_,_,hv2,_⟩:=hv1;obtain⟨g',t',cs,fuel,p,q,hg',ht',hvar,hd, -,-⟩:=hv2;obtain rfl:=Option.some.inj (gPow.symm.trans hg');obtain rfl:=Option.some.inj (gPowType.symm.trans ht');rw[formPow]at hd;unfold qCp Lib.TabIs;rw[hvar,<-Lib.cells_of_tab Tryz.underlying152 Tryz.underlying146 cellsWord cellsPow hd]
theorem kinds{W:World}(h:laidMetH Tryz.prog Rows.parserParseRow.laid W):qBa W:=by
 have h':laidMet Tryz.prog Rows.parserParseRow.laid W:=h;obtain⟨ps,hv,-⟩:=h';have hv':DataW.LaidVars Tryz.prog W Rows.parserParseRow.laid ps:=hv;obtain⟨_,_,_,_,_,q0,_,_,_,_,hv1,_⟩:=hv';obtain⟨_,_,_,_,_,q1,_,_,_,_,hv2,_⟩:=hv1;obtain⟨_,_,_,_,_,q2,_,_,_,_,hv3,_⟩:=hv2;obtain⟨g',t',cs,fuel,p,q,hg',ht',hvar,hd, -,-⟩:=hv3;obtain rfl:=Option.some.inj (gKin.symm.trans hg');obtain rfl:=Option.some.inj (gKinType.symm.trans ht');rw[formKin]at hd;have ht:Lib.TabIs Tryz.prog W "worldmint/lexer.kinds" .u8 kindsL:=by
  unfold Lib.TabIs;rw[hvar,<-Lib.cells_of_tab Tryz.underlying144 Tryz.underlying5 cellsByte cellsKin hd]
 exact fun k hk=>ht.cell gKin k hk

theorem intsAt{W:World}{a:Option Addr}{len cap:Nat}{zs:List Int}(h:(a=none/\len=0/\cap=0/\zs=[])\/
 ∃x,a=some x/\len<=cap/\cap<=maxLen/\zs.length=cap/\(∀i,i<zs.length->W.cell? (x.add i)=some (.int .i64 (zs.getD i 0)))/\∀n∈zs,(Lit.int .i64 n).wf=true):qBr W (.slice a len cap) zs len:=by
 rcases h with ⟨rfl,rfl,rfl,rfl⟩|⟨x,rfl,h1,h2,h3,hc,hw⟩
 ·exact .inl ⟨_,_,rfl,rfl,by omega⟩
 ·have hcap:cap<=9223372036854775807:=by unfold maxLen at h2;omega
  by_cases hz:len=0
  ·subst hz;exact .inl ⟨_,_,rfl,rfl,hcap⟩
  ·obtain⟨b,off,rfl,hc'⟩:=ints_at hc (by omega)
   refine .inr ⟨b,off,cap,rfl,World.block_lt_of_cell? W _ (hc' 0 (by omega)),h1,hcap,fun j hj=> ?_,fun j hj=> ?_⟩
   ·rw[hc' j (by omega),List.getD_eq_getElem?_getD]
   ·have hj':j<zs.length:=by omega
    have:=hw (zs[j]) (List.getElem_mem hj');rw[List.getElem?_eq_getElem hj'];exact bounds_i64 this

set_option maxRecDepth 100000 in
theorem contract(H:Type)(enc:TypeId×Value->H)(W:World)(base:Nat)(args:Array Value)(ds gs:List (DataW H))(before:List MemPlace)
 (hval:∀(j:Nat) t v,Tryz.f3.params[j]? =some t->args[j]? =some v->Value.okWide Tryz.prog W .any base t v)
 (hW:DataW.Whole enc Tryz.prog Tryz.f3.params.toList Rows.parserParseSpec.vars false W args.toList ds gs before)(hL:laidMetH Tryz.prog Rows.parserParseRow.laid W):
 Calls Tryz.prog 3 args W fun e W'=>∃v,e=.returned v/\Rows.parserParseSpec.post enc Tryz.prog Tryz.f3 false true false false W args v W':=by
 have hW':=hW;obtain⟨p,q,hA0,hV,rfl,hfz,hnd⟩:=hW;have hA:DataW.TrodAll enc Tryz.prog W 0 (fun _=>true) true Tryz.f3.params.toList args.toList ds p:=hA0;rw[Tryz.params3]at hA hval;obtain⟨v0,vs0,d0,ds0,p0,q0,hargs,rfl,rfl,h0,r0⟩:=trodAll_cons hA;obtain⟨v1,vs1,d1,ds1,p1,q1,rfl,rfl,rfl,h1,r1⟩:=trodAll_cons r0;obtain⟨v2,vs2,d2,ds2,p2,q2,rfl,rfl,rfl,h2,r2⟩:=trodAll_cons r1;obtain⟨v3,vs3,d3,ds3,p3,q3,rfl,rfl,rfl,h3,r3⟩:=trodAll_cons r2;obtain⟨rfl,rfl,rfl⟩:=trodAll_nil r3;obtain rfl:args=#[v0,v1,v2,v3]:=by cases args;simp_all
 obtain⟨rfl,rfl⟩:=trodVars_none hV;obtain⟨a0,len0,cap0,rfl⟩:=okWide_slice Tryz.underlying22 (hval 0 22 v0 rfl rfl);have k0:=h0;have lt0:∀x∈p0,x.block<W.heap.size:=by obtain⟨m,hm⟩:=k0;exact DataW.trod_lt m _ _ _ hm
 obtain⟨z0,w0⟩:∃zs,qBr W (.slice a0 len0 cap0) zs len0:=by
  obtain⟨fuel,hf⟩:=h0;rcases open_ints Tryz.underlying22 Tryz.underlying3 (by kernel_rfl) hf with ⟨hcs,_⟩|⟨x,l,c,zs,hcs,_,hl,hm,hz,_,hcell,hwz⟩
  ·simp[Value.cells]at hcs
   obtain⟨rfl,rfl,rfl⟩:=hcs;exact⟨[],intsAt (.inl ⟨rfl,rfl,rfl,rfl⟩)⟩
  ·simp[Value.cells]at hcs
   obtain⟨rfl,rfl,rfl⟩:=hcs;exact⟨zs,intsAt (.inr ⟨_,rfl,hl,hm,by simpa using hz,hcell,hwz⟩)⟩
 obtain⟨a1,rfl,rfl,rfl,w1⟩:=open_int Tryz.underlying3 (hval 1 3 v1 rfl rfl) h1;have b1: -9223372036854775808<=a1/\a1<=9223372036854775807:=bounds_i64 w1;obtain⟨a2,rfl,rfl,rfl,w2⟩:=open_int Tryz.underlying3 (hval 2 3 v2 rfl rfl) h2;have b2: -9223372036854775808<=a2/\a2<=9223372036854775807:=bounds_i64 w2;obtain⟨a3,rfl,rfl,rfl,w3⟩:=open_int Tryz.underlying3 (hval 3 3 v3 rfl rfl) h3;have b3: -9223372036854775808<=a3/\a3<=9223372036854775807:=bounds_i64 w3;clear hA0;refine(qEm _ z0 len0 a1 a2 a3 W w0 b1.1 b1.2 b2.1 b2.2 b3.1 b3.2 (kinds hL) (table hL)).mono fun e W' ⟨he,bel⟩=> ?_;subst he;exact⟨_,rfl,_,_,_,[],_,[],hW',trodAll_mk1 (shut_bool Tryz.underlying4 _),(trodAll_cons_mk (Below.trod laidOut (by kernel_rfl) (of_decide_eq_true (by kernel_rfl)) k0 bel lt0) (trodAll_cons_mk (shut_int Tryz.underlying3 w1) (trodAll_cons_mk (shut_int Tryz.underlying3 w2) (trodAll_cons_mk (shut_int Tryz.underlying3 w3) trodAll_mk0)))),rfl,bel.frame _,fun h=>by cases h⟩

def tabVals:DataW Unit->List Value
 |.agg l=>l.map fun|.lit (.int k z)=> .int k z|_=> .nilIface
 |_=>[]
def setTab(d:DataW Unit):Obj->Obj
 |.cells _ t frozen=> .cells (tabVals d).toArray t frozen
 |o=>o
noncomputable def laidWorld(os:Os):World:=
 { World.holding Tryz.prog os ⟨#[],#[],[]⟩with heap:=(((((World.holding Tryz.prog os ⟨#[],#[],[]⟩).heap.modify 3 (setTab Rows.laid_math_bits_deBruijn32tab)).modify 4 (setTab Rows.laid_math_bits_deBruijn64tab)).modify 1 (setTab Rows.laid_internal_strconv_uint64pow10)).modify 0 (setTab Rows.laid_worldmint_lexer_kinds)) }
theorem laid_met(os:Os):laidMet Tryz.prog Rows.parserParseRow.laid ((laidWorld os).forCall (fun _ _=>0) ⟨#[],#[.slice none 0 0,.int .i64 0,.int .i64 0,.int .i64 0],[]⟩).memory:=
 laidMet_of_run' 8 (by kernel_rfl) (by kernel_rfl)
theorem reads(os:Os){H:Type}(enc:TypeId×Value->H):∃places,DataW.whole enc Tryz.prog ((laidWorld os).forCall (fun _ _=>0) ⟨#[],#[.slice none 0 0,.int .i64 0,.int .i64 0,.int .i64 0],[]⟩).memory Tryz.f3.params.toList Rows.parserParseSpec.vars false #[(.slice none 0 0:Value),(.int .i64 0:Value),(.int .i64 0:Value),(.int .i64 0:Value)].toList 8=some ([.nil,.lit (.int .i64 0),.lit (.int .i64 0),.lit (.int .i64 0)],[],places):=
 ⟨[],by kernel_rfl⟩

set_option maxRecDepth 100000 in
theorem lifted(os:Os)(started:os.Started)(H:Type)(enc:TypeId×Value->H)(F:Stop.Interp):
 ReturnsInHanded {} Tryz.checked os 3 .any ((OpenSpec.ofChange Rows.parserParseSpec).preRow enc Tryz.prog Tryz.f3 Rows.parserParseRow.domain false Rows.parserParseRow.laid) (((OpenSpec.ofChange Rows.parserParseSpec).at F).post enc Tryz.prog Tryz.f3 false true false false):=by
 obtain⟨places,hx⟩:=reads os enc;refine returnsInHanded_of_row (C:=Tryz.checked) (s:=OpenSpec.ofChange Rows.parserParseSpec) own started (by kernel_rfl) Tryz.func3
  (witness_row_at (enc:=enc) (C:=Tryz.checked) false (laidWorld os) #[.slice none 0 0,.int .i64 0,.int .i64 0,.int .i64 0] rfl (by kernel_rfl) (by kernel_rfl) (by kernel_rfl)
   (OpenSpec.preRow_of_cond 8 hx (by kernel_rfl) (fun k hk=>by cases hk) (by kernel_rfl) (laid_met os))) ?_
 intro W base args ds gs before hval hW _ _ _ hL _ _;exact contract H enc W base args ds gs before hval hW hL

theorem said:Rows.ParserParseSaid:=
 OpenClaim.holds_of_cond 3 Tryz.f3 rfl rfl rfl rfl rfl rfl rfl ⟨rfl,rfl,rfl,rfl,rfl⟩ rfl rfl rfl rfl rfl (by kernel_rfl) Tryz.func3 (by kernel_rfl)
  (of_decide_eq_true (by kernel_rfl)) (by unfold Func.isWrapper;first|(rw[if_pos (by decide +kernel)];kernel_rfl)|(rw[if_neg (by decide +kernel)];exact⟨rfl,rfl⟩))
  (fun os started H enc _ F=>by rw[OpenClaim.pre_eq_preRow];exact lifted os started H enc F)

theorem plain(f:FuncId)(fn:Func)(hf:Tryz.pinned.checked.prog.funcNamed "worldmint/worldmintlaw08.ParserParse" =some f)(hfn:Tryz.pinned.checked.prog.funcs[f]? =some fn):
 true=Tryz.pinned.checked.prog.looks []/\∀(j:Nat) t,fn.params[j]? =some t->Tryz.pinned.checked.prog.wantsStandIn t=false:=by
 obtain rfl:f=3:=Option.some.inj ((show Tryz.prog.funcNamed "worldmint/worldmintlaw08.ParserParse" =some 3 by kernel_rfl).symm.trans hf)|>.symm
 obtain rfl:fn=Tryz.f3:=(Option.some.inj (Tryz.func3.symm.trans hfn)).symm;refine⟨by kernel_rfl,fun j t ht=> ?_⟩;rw[Tryz.params3]at ht;have ht':=Array.mem_of_getElem? ht;simp only[List.mem_toArray,List.mem_cons,List.not_mem_nil,or_false]at ht';have ht2:t=22\/t=3:=by first|exact ht'|omega|(simpa using ht';done)|grind
 rcases ht2 with rfl|rfl
 ·exact(show Tryz.prog.wantsStandIn 22=false by kernel_rfl)
 ·exact(show Tryz.prog.wantsStandIn 3=false by kernel_rfl)

theorem card:Rows.ParserParseCardSaid:=
 Claim7.holds_tied_plain_at .later [] _ _ _ _ said (fun _ h=>by cases h) (by kernel_rfl) (fun _ h=>by cases h) parserParse_row_tie rfl ⟨rfl,rfl⟩ (by kernel_rfl) rfl plain (by kernel_rfl)
#print axioms card
end Go.Proofs.YtpmnbcdjoomgcaaGreatDoor.parserParse
