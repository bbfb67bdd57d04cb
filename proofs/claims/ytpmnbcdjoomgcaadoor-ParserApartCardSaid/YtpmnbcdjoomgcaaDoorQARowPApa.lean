/- The law ParserApart returns true for every input, and its arguments read afterwards as before: the row's statement and its card. The row lists tables of the library; the card ties them to the program's text. -/
import Derived.Test.YtpmnbcdjoomgcaaDoorCards
import Derived.Test.YtpmnbcdjoomgcaaDoorTie
import Derived.Test.YtpmnbcdjoomgcaaDoorQALawPApa
import Derived.WalkKit
import Derived.ProofKit
import Derived.OpenShut
import Derived.ShutString
import Derived.ChangeOld
import Derived.Below
import Derived.Deep.DeepHandedRow
import Derived.Lib.LaidTab
set_option linter.unusedVariables false
set_option linter.unusedSimpArgs false
namespace Go.Proofs.YtpmnbcdjoomgcaaDoor.parserApart
open Go.ChangeShapes Go.WideShapes Go.ChangeAt Go.RowKit
open Go.ChangeMaps (open_string shut_string)

theorem own:ownKnob Tryd.prog.godebug=none:=by kernel_rfl
theorem laidOut:laidOutB Tryd.prog=true:=by kernel_rfl
theorem gPow:Tryd.prog.globalNamed "internal/strconv.uint64pow10" =some 1:=by kernel_rfl
theorem gPowType:(Tryd.prog.globals[1]?).map (·.type)=some 165:=by kernel_rfl
theorem cellsPow:Tryd.prog.cellsOf 165=20:=by kernel_rfl
theorem cellsWord:Tryd.prog.cellsOf 159=1:=by kernel_rfl
theorem formPow:(Rows.laid_internal_strconv_uint64pow10:DataW Unit)=Lib.tabData .u64 Lib.pow10Tab:=by rfl
theorem gKin:Tryd.prog.globalNamed "worldmint/lexer.kinds" =some 0:=by kernel_rfl
theorem gKinType:(Tryd.prog.globals[0]?).map (·.type)=some 156:=by kernel_rfl
theorem cellsKin:Tryd.prog.cellsOf 156=128:=by kernel_rfl
theorem cellsByte:Tryd.prog.cellsOf 5=1:=by kernel_rfl
theorem formKin:(Rows.laid_worldmint_lexer_kinds:DataW Unit)=Lib.tabData .u8 kindsL:=by rfl

theorem table{W:World}(h:laidMetH Tryd.prog Rows.parserApartRow.laid W):qB7 W:=by
 have h':laidMet Tryd.prog Rows.parserApartRow.laid W:=h;obtain⟨ps,hv,-⟩:=h';have hv':DataW.LaidVars Tryd.prog W Rows.parserApartRow.laid ps:=hv;obtain⟨_,_,_,_,_,q0,_,_,_,_,hv1,_⟩:=hv';obtain⟨_,_,_,_,_,q1,_,_,_,_,hv2,_⟩:=hv1;obtain⟨g',t',cs,fuel,p,q,hg',ht',hvar,hd, -,-⟩:=hv2;obtain rfl:=Option.some.inj (gPow.symm.trans hg');obtain rfl:=Option.some.inj (gPowType.symm.trans ht');rw[formPow]at hd;unfold qB7 Lib.TabIs;rw[hvar,<-Lib.cells_of_tab Tryd.underlying165 Tryd.underlying159 cellsWord cellsPow hd]
theorem kinds{W:World}(h:laidMetH Tryd.prog Rows.parserApartRow.laid W):qA2 W:=by
 have h':laidMet Tryd.prog Rows.parserApartRow.laid W:=h;obtain⟨ps,hv,-⟩:=h';have hv':DataW.LaidVars Tryd.prog W Rows.parserApartRow.laid ps:=hv;obtain⟨_,_,_,_,_,q0,_,_,_,_,hv1,_⟩:=hv';obtain⟨_,_,_,_,_,q1,_,_,_,_,hv2,_⟩:=hv1;obtain⟨_,_,_,_,_,q2,_,_,_,_,hv3,_⟩:=hv2;obtain⟨g',t',cs,fuel,p,q,hg',ht',hvar,hd, -,-⟩:=hv3;obtain rfl:=Option.some.inj (gKin.symm.trans hg');obtain rfl:=Option.some.inj (gKinType.symm.trans ht');rw[formKin]at hd;have ht:Lib.TabIs Tryd.prog W "worldmint/lexer.kinds" .u8 kindsL:=by
  unfold Lib.TabIs;rw[hvar,<-Lib.cells_of_tab Tryd.underlying156 Tryd.underlying5 cellsByte cellsKin hd]
 exact fun k hk=>ht.cell gKin k hk

theorem intsAt{W:World}{a:Option Addr}{len cap:Nat}{zs:List Int}(h:(a=none/\len=0/\cap=0/\zs=[])\/
 ∃x,a=some x/\len<=cap/\cap<=maxLen/\zs.length=cap/\(∀i,i<zs.length->W.cell? (x.add i)=some (.int .i64 (zs.getD i 0)))/\∀n∈zs,(Lit.int .i64 n).wf=true):qA3 W (.slice a len cap) zs len:=by
 rcases h with ⟨rfl,rfl,rfl,rfl⟩|⟨x,rfl,h1,h2,h3,hc,hw⟩
 ·exact .inl ⟨_,_,rfl,rfl,by omega⟩
 ·have hcap:cap<=9223372036854775807:=by unfold maxLen at h2;omega
  by_cases hz:len=0
  ·subst hz;exact .inl ⟨_,_,rfl,rfl,hcap⟩
  ·obtain⟨b,off,rfl,hc'⟩:=ints_at hc (by omega)
   refine .inr ⟨b,off,cap,rfl,World.block_lt_of_cell? W _ (hc' 0 (by omega)),h1,hcap,fun j hj=> ?_,fun j hj=> ?_⟩
   ·rw[hc' j (by omega),List.getD_eq_getElem?_getD]
   ·have hj':j<zs.length:=by omega
    have:=hw (zs[j]) (List.getElem_mem hj');rw[List.getElem?_eq_getElem hj'];exact bounds_i64 this

set_option maxRecDepth 100000 in
theorem contract(H:Type)(enc:TypeId×Value->H)(W:World)(base:Nat)(args:Array Value)(ds gs:List (DataW H))(before:List MemPlace)
 (hval:∀(j:Nat) t v,Tryd.f7.params[j]? =some t->args[j]? =some v->Value.okWide Tryd.prog W .any base t v)
 (hW:DataW.Whole enc Tryd.prog Tryd.f7.params.toList Rows.parserApartSpec.vars false W args.toList ds gs before)(hL:laidMetH Tryd.prog Rows.parserApartRow.laid W):
 Calls Tryd.prog 7 args W fun e W'=>∃v,e=.returned v/\Rows.parserApartSpec.post enc Tryd.prog Tryd.f7 false true false false W args v W':=by
 have hW':=hW;obtain⟨p,q,hA0,hV,rfl,hfz,hnd⟩:=hW;have hA:DataW.TrodAll enc Tryd.prog W 0 (fun _=>true) true Tryd.f7.params.toList args.toList ds p:=hA0;rw[Tryd.params7]at hA hval;obtain⟨v0,vs0,d0,ds0,p0,q0,hargs,rfl,rfl,h0,r0⟩:=trodAll_cons hA;obtain⟨v1,vs1,d1,ds1,p1,q1,rfl,rfl,rfl,h1,r1⟩:=trodAll_cons r0;obtain⟨rfl,rfl,rfl⟩:=trodAll_nil r1;obtain rfl:args=#[v0,v1]:=by cases args;simp_all
 obtain⟨rfl,rfl⟩:=trodVars_none hV;obtain⟨a0,len0,cap0,rfl⟩:=okWide_slice Tryd.underlying25 (hval 0 25 v0 rfl rfl);have k0:=h0;have lt0:∀x∈p0,x.block<W.heap.size:=by obtain⟨m,hm⟩:=k0;exact DataW.trod_lt m _ _ _ hm
 obtain⟨z0,w0⟩:∃zs,qA3 W (.slice a0 len0 cap0) zs len0:=by
  obtain⟨fuel,hf⟩:=h0;rcases open_ints Tryd.underlying25 Tryd.underlying3 (by kernel_rfl) hf with ⟨hcs,_⟩|⟨x,l,c,zs,hcs,_,hl,hm,hz,_,hcell,hwz⟩
  ·simp[Value.cells]at hcs
   obtain⟨rfl,rfl,rfl⟩:=hcs;exact⟨[],intsAt (.inl ⟨rfl,rfl,rfl,rfl⟩)⟩
  ·simp[Value.cells]at hcs
   obtain⟨rfl,rfl,rfl⟩:=hcs;exact⟨zs,intsAt (.inr ⟨_,rfl,hl,hm,by simpa using hz,hcell,hwz⟩)⟩
 obtain⟨a1,len1,cap1,rfl⟩:=okWide_slice Tryd.underlying25 (hval 1 25 v1 rfl rfl);have k1:=h1;have lt1:∀x∈p1,x.block<W.heap.size:=by obtain⟨m,hm⟩:=k1;exact DataW.trod_lt m _ _ _ hm
 obtain⟨z1,w1⟩:∃zs,qA3 W (.slice a1 len1 cap1) zs len1:=by
  obtain⟨fuel,hf⟩:=h1;rcases open_ints Tryd.underlying25 Tryd.underlying3 (by kernel_rfl) hf with ⟨hcs,_⟩|⟨x,l,c,zs,hcs,_,hl,hm,hz,_,hcell,hwz⟩
  ·simp[Value.cells]at hcs
   obtain⟨rfl,rfl,rfl⟩:=hcs;exact⟨[],intsAt (.inl ⟨rfl,rfl,rfl,rfl⟩)⟩
  ·simp[Value.cells]at hcs
   obtain⟨rfl,rfl,rfl⟩:=hcs;exact⟨zs,intsAt (.inr ⟨_,rfl,hl,hm,by simpa using hz,hcell,hwz⟩)⟩
 clear hA0;refine(qD6 _ z0 len0 _ z1 len1 W w0 w1 (kinds hL) (table hL)).mono fun e W' ⟨he,bel⟩=> ?_;subst he;exact⟨_,rfl,_,_,_,[],_,[],hW',trodAll_mk1 (shut_bool Tryd.underlying4 _),(trodAll_cons_mk (Below.trod laidOut (by kernel_rfl) (of_decide_eq_true (by kernel_rfl)) k0 bel lt0) (trodAll_cons_mk (Below.trod laidOut (by kernel_rfl) (of_decide_eq_true (by kernel_rfl)) k1 bel lt1) trodAll_mk0)),rfl,bel.frame _,fun h=>by cases h⟩

def tabVals:DataW Unit->List Value
 |.agg l=>l.map fun|.lit (.int k z)=> .int k z|_=> .nilIface
 |_=>[]
def setTab(d:DataW Unit):Obj->Obj
 |.cells _ t frozen=> .cells (tabVals d).toArray t frozen
 |o=>o
noncomputable def laidWorld(os:Os):World:=
 { World.holding Tryd.prog os ⟨#[],#[],[]⟩with heap:=(((((World.holding Tryd.prog os ⟨#[],#[],[]⟩).heap.modify 3 (setTab Rows.laid_math_bits_deBruijn32tab)).modify 4 (setTab Rows.laid_math_bits_deBruijn64tab)).modify 1 (setTab Rows.laid_internal_strconv_uint64pow10)).modify 0 (setTab Rows.laid_worldmint_lexer_kinds)) }
theorem laid_met(os:Os):laidMet Tryd.prog Rows.parserApartRow.laid ((laidWorld os).forCall (fun _ _=>0) ⟨#[],#[.slice none 0 0,.slice none 0 0],[]⟩).memory:=
 laidMet_of_run' 8 (by kernel_rfl) (by kernel_rfl)
theorem reads(os:Os){H:Type}(enc:TypeId×Value->H):∃places,DataW.whole enc Tryd.prog ((laidWorld os).forCall (fun _ _=>0) ⟨#[],#[.slice none 0 0,.slice none 0 0],[]⟩).memory Tryd.f7.params.toList Rows.parserApartSpec.vars false #[(.slice none 0 0:Value),(.slice none 0 0:Value)].toList 8=some ([.nil,.nil],[],places):=
 ⟨[],by kernel_rfl⟩

set_option maxRecDepth 100000 in
theorem lifted(os:Os)(started:os.Started)(H:Type)(enc:TypeId×Value->H)(F:Stop.Interp):
 ReturnsInHanded {} Tryd.checked os 7 .any ((OpenSpec.ofChange Rows.parserApartSpec).preRow enc Tryd.prog Tryd.f7 Rows.parserApartRow.domain false Rows.parserApartRow.laid) (((OpenSpec.ofChange Rows.parserApartSpec).at F).post enc Tryd.prog Tryd.f7 false true false false):=by
 obtain⟨places,hx⟩:=reads os enc;refine returnsInHanded_of_row (C:=Tryd.checked) (s:=OpenSpec.ofChange Rows.parserApartSpec) own started (by kernel_rfl) Tryd.func7
  (witness_row_at (enc:=enc) (C:=Tryd.checked) false (laidWorld os) #[.slice none 0 0,.slice none 0 0] rfl (by kernel_rfl) (by kernel_rfl) (by kernel_rfl)
   (OpenSpec.preRow_of_cond 8 hx (by kernel_rfl) (fun k hk=>by cases hk) (by kernel_rfl) (laid_met os))) ?_
 intro W base args ds gs before hval hW _ _ _ hL _ _;exact contract H enc W base args ds gs before hval hW hL

theorem said:Rows.ParserApartSaid:=
 OpenClaim.holds_of_cond 7 Tryd.f7 rfl rfl rfl rfl rfl rfl rfl ⟨rfl,rfl,rfl,rfl,rfl⟩ rfl rfl rfl rfl rfl (by kernel_rfl) Tryd.func7 (by kernel_rfl)
  (of_decide_eq_true (by kernel_rfl)) (by unfold Func.isWrapper;first|(rw[if_pos (by decide +kernel)];kernel_rfl)|(rw[if_neg (by decide +kernel)];exact⟨rfl,rfl⟩))
  (fun os started H enc _ F=>by rw[OpenClaim.pre_eq_preRow];exact lifted os started H enc F)

theorem plain(f:FuncId)(fn:Func)(hf:Tryd.pinned.checked.prog.funcNamed "worldmint/worldmintlaw08.ParserApart" =some f)(hfn:Tryd.pinned.checked.prog.funcs[f]? =some fn):
 true=Tryd.pinned.checked.prog.looks []/\∀(j:Nat) t,fn.params[j]? =some t->Tryd.pinned.checked.prog.wantsStandIn t=false:=by
 obtain rfl:f=7:=Option.some.inj ((show Tryd.prog.funcNamed "worldmint/worldmintlaw08.ParserApart" =some 7 by kernel_rfl).symm.trans hf)|>.symm
 obtain rfl:fn=Tryd.f7:=(Option.some.inj (Tryd.func7.symm.trans hfn)).symm;refine⟨by kernel_rfl,fun j t ht=> ?_⟩;rw[Tryd.params7]at ht;have ht':=Array.mem_of_getElem? ht;simp only[List.mem_toArray,List.mem_cons,List.not_mem_nil,or_false]at ht';have ht2:t=25:=by first|exact ht'|omega|(simpa using ht';done)|grind
 obtain rfl:=ht2;exact(show Tryd.prog.wantsStandIn 25=false by kernel_rfl)

theorem card:Rows.ParserApartCardSaid:=
 Claim7.holds_tied_plain_at .later [] _ _ _ _ said (fun _ h=>by cases h) (by kernel_rfl) (fun _ h=>by cases h) parserApart_row_tie rfl ⟨rfl,rfl⟩ (by kernel_rfl) rfl plain (by kernel_rfl)
#print axioms card
end Go.Proofs.YtpmnbcdjoomgcaaDoor.parserApart
