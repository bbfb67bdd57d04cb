/- wide: String. -/
import Derived.Test.YtkjhlkngihponaaGreatDoorQKGGen
import Derived.Test.YtkjhlkngihponaaGreatDoorQKStr
import Derived.Test.YtkjhlkngihponaaGreatDoorQKWDivS
import Derived.Test.YtkjhlkngihponaaGreatDoorQKShelf
import Derived.Deep.AppendLies
import Derived.Test.YtkjhlkngihponaaGreatDoorQKWDivide
import Derived.Maps.AppendAt
import Derived.Lib.ItoaMem
set_option linter.unusedVariables false
set_option linter.unusedSimpArgs false
set_option maxHeartbeats 8000000
set_option maxRecDepth 100000
namespace Go.Proofs.YtkjhlkngihponaaGreatDoor
open Go.RowKit
attribute [local go_sem] Oper.semAt_some
open Go.RowKit Go.Shelf
def qCr(z:Int):Int:=if -9223372036854775808<=z/\z<=9223372036854775807 then z else if 0<z then 9223372036854775807 else -9223372036854775808
def qH5(n:Nat)(ws:List Int):List (Nat×(Nat->Int))->Int×Int×Bool
 |[]=>(0,0,false)
 |x::L=>if qFi ws n x.2=0 then qH5 n ws L else ((x.1:Int),qCr (qFi ws n x.2),true)
def qOi(c:Cat)(ws:List Int):Int×Int×Bool:=if ws.length=c.items.length then qH5 c.items.length ws (qC4 c)else (0,0,false)
def qRZ(b:Int×Int×Bool):Value:=.tuple #[.int .i64 b.1,.int .i64 b.2.1,.bool b.2.2]
theorem qJf{n:Nat}{ws:List Int}:∀{L:List (Nat×(Nat->Int))},(∀x∈L,qFi ws n x.2=0)->qH5 n ws L=(0,0,false)
 |[],_=>rfl
 |x::L,h=>by rw[qH5,if_pos (h x (by simp)),qJf (fun y hy=>h y (by simp[hy]))]
theorem qDE{n:Nat}{ws:List Int}:∀{L:List (Nat×(Nat->Int))} {k:Nat} {x:Nat×(Nat->Int)},L[k]? =some x->(∀q y,q<k->L[q]? =some y->qFi ws n y.2=0)->qFi ws n x.2≠0->qH5 n ws L=((x.1:Int),qCr (qFi ws n x.2),true)
 |[],k,x,h,_,_=>by simp at h
 |y::L,0,x,h,_,hx=>by
  simp only[List.getElem?_cons_zero,Option.some.injEq]at h;subst h;rw[qH5,if_neg hx]
 |y::L,k+1,x,h,h0,hx=>by
  rw[qH5,if_pos (h0 0 y (by omega) rfl)];exact qDE (k:=k) (by simpa using h) (fun q z hq hz=>h0 (q+1) z (by omega) (by simpa using hz)) hx
structure BrJ(Wb:World)(c:Cat)(ws:List Int)(ra l n0:Nat)(rec:LoopState->Option Code->Loop)(k:Nat)(W:World):Prop where
 on:qAc (fun b=>ra<=b/\b<ra+3\/b=l\/n0<=b) Wb W
 sz:n0<=W.heap.size
 rd:W.heap[l]? =some (.loop (rec .ready none))
 r0:One W ra 3 (.int .i64 0)
 r1:One W (ra+1) 3 (.int .i64 0)
 r2:One W (ra+2) 4 (.bool false)
 no:∀q x,q<k->(qC4 c)[q]? =some x->qFi ws c.items.length x.2=0
theorem BrJ.below{Wb:World}{c:Cat}{ws:List Int}{ra l n0:Nat}{rec:LoopState->Option Code->Loop}{k:Nat}{W W':World}(h:BrJ Wb c ws ra l n0 rec k W)(hb:Below n0 W W')(h1:ra+2<n0)(h2:l<n0):BrJ Wb c ws ra l n0 rec k W':=
 ⟨h.on.trans ⟨hb.os,hb.tape,hb.output,hb.size,fun k hk hn=>hb.block k (by omega)⟩,Nat.le_trans h.sz hb.size,(hb.block _ h2).trans h.rd,h.r0.below hb (by omega),h.r1.below hb (by omega),h.r2.below hb h1,h.no⟩
structure BrX(Wb:World)(c:Cat)(ws:List Int)(ra l n0:Nat)(rec:LoopState->Option Code->Loop)(W:World):Prop where
 on:qAc (fun b=>ra<=b/\b<ra+3\/b=l\/n0<=b) Wb W
 rd:W.heap[l]? =some (.loop (rec .done (some .ret)))
 ex:∃i z,One W ra 3 (.int .i64 i)/\One W (ra+1) 3 (.int .i64 z)/\One W (ra+2) 4 (.bool true)/\qH5 c.items.length ws (qC4 c)=(i,z,true)
theorem qRt{W:World}{ra:Nat}{u0 u1 u2 v0 v1 v2:Value}{t0 t1 t2:TypeId}(h0:One W ra t0 u0)(h1:One W (ra+1) t1 u1)(h2:One W (ra+2) t2 u2):One (((W.setCell ⟨ra,0,none⟩ v0).setCell ⟨ra+1,0,none⟩ v1).setCell ⟨ra+2,0,none⟩ v2) ra t0 v0/\
 One (((W.setCell ⟨ra,0,none⟩ v0).setCell ⟨ra+1,0,none⟩ v1).setCell ⟨ra+2,0,none⟩ v2) (ra+1) t1 v1/\One (((W.setCell ⟨ra,0,none⟩ v0).setCell ⟨ra+1,0,none⟩ v1).setCell ⟨ra+2,0,none⟩ v2) (ra+2) t2 v2/\qAc (fun b=>ra<=b/\b<ra+3) W (((W.setCell ⟨ra,0,none⟩ v0).setCell ⟨ra+1,0,none⟩ v1).setCell ⟨ra+2,0,none⟩ v2):=by
 have s0:=qA9 W ra 0 v0;have s1:=qA9 (W.setCell ⟨ra,0,none⟩ v0) (ra+1) 0 v1;have s2:=qA9 ((W.setCell ⟨ra,0,none⟩ v0).setCell ⟨ra+1,0,none⟩ v1) (ra+2) 0 v2;refine⟨s2.one (s1.one (h0.set v0) (by omega)) (by omega),s2.one ((s0.one h1 (by omega)).set v1) (by omega),(s1.one (s0.one h2 (by omega)) (by omega)).set v2,?_⟩;exact((s0.mono (fun b hb=>by omega)).trans (s1.mono (fun b hb=>by omega))).trans (s2.mono (fun b hb=>by omega))
theorem qKj(vi vr vw:Value)(c:Cat)(ws:List Int)(w:World)(hc:qAS w vi vr c)(hf:qL8 c)(hw:qAg w vw ws)(h64:B64 ws)(hK:qAZ w):
 CallsIn Fence.wide 31 Tryz.prog 24 #[qBo vi vr,vw] w fun e w'=>e=.returned (qRZ (qOi c ws))/\Below w.heap.size w w':=by
 obtain⟨ai,ci,rfl,hi1,hi2⟩:=hc.items.form;obtain⟨ar,cr,rfl,hr1,hr2⟩:=hc.rules.form;obtain⟨aw,cw,rfl, -,-⟩:=hw.form;have HC:=hZ hc;have HF:=hZ hf;have HK:=hZ hK;have HW:=hZ hw;have H64:=hZ h64;have hli:=hf.good.items;clear hc hf hK hw h64;unfold qBo;refine callsIn_of_wp_marks Tryz.func24 rfl trivial ?_ rfl;simp only[Tryz.ntmps24,List.size_toArray,List.length_cons,List.length_nil,Nat.reduceAdd,Nat.reduceSub,Array.replicate_succ,Array.replicate_zero,List.push_toArray,List.append_toArray,List.nil_append,List.cons_append];refine wpIn_wide.2 ?_;obtain⟨w1,hw1⟩:=eX ((((((w.alloc (.cells #[.slice ai c.items.length ci,.slice ar c.rules.length cr,.slice none 0 0,.slice none 0 0] 28)).alloc (.cells #[.slice aw ws.length cw] 22)).alloc (.cells #[.int .i64 0] 3)).alloc (.cells #[.int .i64 0] 3)).alloc (.cells #[.bool false] 4)));have hB:∀(X:World) (o:Obj),Below X.heap.size X (X.alloc o):=fun X o=>aR;obtain⟨x0,hx0⟩:=eX (w.alloc (.cells #[.slice ai c.items.length ci,.slice ar c.rules.length cr,.slice none 0 0,.slice none 0 0] 28));obtain⟨x1,hx1⟩:=eX (x0.alloc (.cells #[.slice aw ws.length cw] 22));obtain⟨x2,hx2⟩:=eX (x1.alloc (.cells #[.int .i64 0] 3));obtain⟨x3,hx3⟩:=eX (x2.alloc (.cells #[.int .i64 0] 3));have e1:x0.heap.size=w.heap.size+1:=by rw[<-hx0];simp
 have e2:x1.heap.size=w.heap.size+2:=by rw[<-hx1];simp[e1]
 have e3:x2.heap.size=w.heap.size+3:=by rw[<-hx2];simp[e2]
 have e4:x3.heap.size=w.heap.size+4:=by rw[<-hx3];simp[e3]
 have b0:Below w.heap.size w x0:=by rw[<-hx0];exact hB _ _
 have b1:Below x0.heap.size x0 x1:=by rw[<-hx1];exact hB _ _
 have b2:Below x1.heap.size x1 x2:=by rw[<-hx2];exact hB _ _
 have b3:Below x2.heap.size x2 x3:=by rw[<-hx3];exact hB _ _
 have hw1x:x3.alloc (.cells #[.bool false] 4)=w1:=by rw[<-hx3,<-hx2,<-hx1,<-hx0];exact hw1
 have b4:Below x3.heap.size x3 w1:=by rw[<-hw1x];exact hB _ _
 have HB:Hid (Below w.heap.size w w1):=hZ ((((b0.trans (b1.mono (by omega))).trans (b2.mono (by omega))).trans (b3.mono (by omega))).trans (b4.mono (by omega)));have HX:Hid (qBw w1 w.heap.size (.slice ai c.items.length ci) (.slice ar c.rules.length cr)):=hZ (((((hx0▸qBw.new w _ _:qBw x0 w.heap.size (.slice ai c.items.length ci) (.slice ar c.rules.length cr)).below b1).below b2).below b3).below b4);have HWB:Hid (One w1 (w.heap.size+1) 22 (.slice aw ws.length cw)):=hZ (((((e1▸hx1▸One.new x0 _ _:One x1 (w.heap.size+1) 22 (.slice aw ws.length cw)).below b2 (by omega)).below b3 (by omega)).below b4 (by omega)));have HR0:Hid (One w1 (w.heap.size+2) 3 (.int .i64 0)):=hZ ((((e2▸hx2▸One.new x1 _ _:One x2 (w.heap.size+2) 3 (.int .i64 0)).below b3 (by omega)).below b4 (by omega)));have HR1:Hid (One w1 (w.heap.size+2+1) 3 (.int .i64 0)):=hZ (((e3▸hx3▸One.new x2 _ _:One x3 (w.heap.size+3) 3 (.int .i64 0)).below b4 (by omega)));have HR2:Hid (One w1 (w.heap.size+2+2) 4 (.bool false)):=hZ (e4▸hw1x▸One.new x3 _ _:One w1 (w.heap.size+4) 4 (.bool false));clear hx0 hx1 hx2 hx3 e1 e2 e3 e4 b0 b1 b2 b3 b4 hw1x;have m0:=HX.o.c0;have m1:=HX.o.c1;have m2:=HX.o.c2;have m3:=HX.o.c3;have mw:=HWB.o.cell;have mr0:=HR0.o.cell;have mr1:=HR1.o.cell;have mr2:=HR2.o.cell;have mlt:=HX.o.lt;clear hB
 go_wp2_with fail
 clear hw1;refine(qDl _ _ c w1 (HC.o.below HB.o) HF.o.good HF.o.named HF.o.ni HF.o.nr (HK.o.keep HB.o)).mono ?_;rintro e w2 ⟨rfl,hB⟩;replace HB:=bT HB hB;replace HX:=hZ (HX.o.below hB);replace HWB:=hZ (HWB.o.below hB HWB.o.lt);replace HR0:=hZ (HR0.o.below hB HR0.o.lt);replace HR1:=hZ (HR1.o.below hB HR1.o.lt);replace HR2:=hZ (HR2.o.below hB HR2.o.lt);clear hB m0 m1 m2 m3 mw mr0 mr1 mr2 mlt;have m0:=HX.o.c0;have m1:=HX.o.c1;have m2:=HX.o.c2;have m3:=HX.o.c3;have mw:=HWB.o.cell;have mr0:=HR0.o.cell;have mr1:=HR1.o.cell;have mr2:=HR2.o.cell;have mlt:=HX.o.lt;have mrf0:=HR0.o.frozen;have mrf1:=HR1.o.frozen;have mrf2:=HR2.o.frozen;by_cases hle:ws.length=c.items.length
 ·have q1:((ws.length:Int) != (c.items.length:Int))=false:=by simp[hle]
  have q2:(ws.length != c.items.length)=false:=by simp[hle]
  have HLE:=hZ hle;clear hle
  go_wp2_with fail
  clear q1 q2;clear m0 m1 m2 m3 mw mr0 mr1 mr2 mlt mrf0 mrf1 mrf2;refine(qDT _ _ _ _ _ _ w2).mono ?_;rintro e w' ⟨rfl,hw'⟩;obtain⟨wq,hwq⟩:=eX w';rw[hwq]at hw' ⊢;clear hwq;have hBq:Below w2.heap.size w2 wq:=by rw[<-hw'];exact aR
  have hbc:qBw wq w2.heap.size (.slice ai c.items.length ci) (.slice ar c.rules.length cr):=by rw[<-hw'];exact qBw.new _ _ _
  have hzq:wq.heap.size=w2.heap.size+1:=by rw[<-hw'];simp
  go_wp2_with fail
  refine(wpIn_wide (n:=31)).1 ?_;refine qDr rfl (by omega) (gf:=109) (lb:=#[.pointer (some ⟨w2.heap.size,0,none⟩)]) rfl trivial (enters_of Tryz.func109 (by kernel_rfl) rfl) ?_;intro fn _;generalize hrec:qEF fn _ _ _ _ _=rec;obtain⟨Wb,hWb⟩:=eX ((wq.alloc (.deferred (some []))).alloc (.loop (rec .ready none)));rw[hWb];obtain⟨lD,hlD⟩:=eX wq.heap.size;have hBb:Below lD wq Wb:=by rw[<-hWb,<-hlD];exact aR.alloc (by simp) _
  have hD:Wb.heap[lD]? =some (.deferred (some [])):=by
   rw[<-hWb,<-hlD];exact(Below.heap_alloc _ _ _ (by simp)).trans (World.alloc_heap_new _ _)
  have hL:Wb.heap[lD+1]? =some (.loop (rec .ready none)):=by
   have h9:=World.alloc_heap_new (wq.alloc (.deferred (some []))) (.loop (rec .ready none));rw[hWb]at h9;simpa[hlD]using h9
  have hzb:Wb.heap.size=lD+1+1:=by rw[<-hWb];simp[hlD]
  rw[hlD]at hrec ⊢;obtain⟨n0,hn0⟩:=eX (lD+1+1);obtain⟨l,hl⟩:=eX (lD+1);obtain⟨rb,hrb⟩:=eX (w.heap.size+1+1);obtain⟨wb,hwb⟩:=eX (w.heap.size+1);obtain⟨bc,hbcq⟩:=eX w2.heap.size;have hlD2:lD=bc+1:=by omega
  have hrw:w.heap.size+2=rb:=by omega
  rw[hrb,hwb,hbcq]at hrec ⊢;rw[hl]at hL ⊢;rw[hrw]at HR0 HR1 HR2;rw[hwb]at HWB;rw[hn0]at hzb;rw[hbcq]at hbc;have hrl:rb+2<bc:=by have:=HR2.o.lt;omega
  have hB2b:Below bc w2 Wb:=by
   have h9:Below bc w2 wq:=by rw[<-hbcq];exact hBq
   exact h9.trans (hBb.mono (by omega))
  have hbelb:Below w.heap.size w Wb:=HB.o.trans (hB2b.mono (by have:=HB.o.size;omega));have hbcb:=hbc.below (show Below wq.heap.size wq Wb by rw[hlD];exact hBb);have hR0b:One Wb rb 3 (.int .i64 0):=HR0.o.below hB2b (by omega);have hR1b:One Wb (rb+1) 3 (.int .i64 0):=HR1.o.below hB2b (by omega);have hR2b:One Wb (rb+2) 4 (.bool false):=HR2.o.below hB2b hrl;have hWBb:One Wb wb 22 (.slice aw ws.length cw):=HWB.o.below hB2b (by omega);have HBE:=hZ hbelb;have HBC:=hZ hbcb;have HWBb:=hZ hWBb;have HDb:=hZ hD;have HJ0:Hid (BrJ Wb c ws rb l n0 rec 0 Wb):=hZ ⟨qAc.refl _ _,by omega,hL,hR0b,hR1b,hR2b,fun q x hq=>by omega⟩;have HZ:=hZ hzb;clear hBq hbc hw' hzq hWb hBb hD hL hzb hB2b hbelb hbcb hR0b hR1b hR2b hWBb HX HWB HR0 HR1 HR2 hlD;have hY:∀(k i:Nat) (f:Nat->Int) (W:World),(qC4 c)[k]? =some (i,f)->BrJ Wb c ws rb l n0 rec k W->qAf W n0 3 (qBa c.items.length f)->YieldAt Fence.wide 29 Tryz.prog l #[.int .i64 (i:Int),.slice (some ⟨n0,0,none⟩) c.items.length c.items.length] W fun e W'=>
   ((e=.returned (.bool true)/\BrJ Wb c ws rb l n0 rec (k+1) W')\/(e=.returned (.bool false)/\BrX Wb c ws rb l n0 rec W'))/\qBG n0 W W':=by
   intro k i f W hk hJ hbk;have hl9:=hJ.rd;rw[<-hrec]at hl9;refine qB8 trivial hl9 rfl ?_;rw[hrec]at hl9 ⊢;have Hrec:=hZ hrec;clear hrec;obtain⟨W2,hW2⟩:=eX (W.putObj l (.loop (rec .busy none)));have hO2:qAc (fun b=>b=l) W W2:=by rw[<-hW2];exact qAo _ _ _
   have hll:l<W.heap.size:=by have:=hJ.sz;omega
   have hl2:W2.heap[l]? =some (.loop (rec .busy none)):=by rw[<-hW2];exact World.putObj_heap_same hll
   have HJ:=hZ hJ;have HO2:=hZ hO2;have Hl2:=hZ hl2;have Hl9:=hZ hl9;have Hk:=hZ hk;have Hbk:=hZ (hbk.only hO2 (by omega));have Hr20:=hZ (hO2.one hJ.r0 (by omega));have Hr21:=hZ (hO2.one hJ.r1 (by omega));have Hr22:=hZ (hO2.one hJ.r2 (by omega));have HW2:=hZ (hO2.one (hJ.on.one HWBb.o (by omega)) (by omega));have Hb2:Hid (Below w.heap.size w W2):=hZ ((hJ.on.trans (hO2.mono (fun b hb=> .inr (.inl hb)))).below HBE.o HBE.o.size (fun b hb=>by omega));have mw:=HW2.o.cell;have hsz:=hJ.sz;clear hl9 hll hJ hk hbk hO2 hl2
   gi_wp2
   refine⟨Hl9.o,?_⟩;clear hW2
   repeat (first|go_values|gi_guarded|gi_step|gi_upon)
   have hmem:(i,f)∈qC4 c:=List.mem_of_getElem? Hk.o;have h64e:=qNM HF.o.good hmem c.items.length;have hel:=qAz c.items.length f;have hwa:=qC6 (.slice aw ws.length cw) (.slice (some ⟨n0,0,none⟩) c.items.length c.items.length) ws (qBO c.items.length f) W2 (HW.o.below Hb2.o) (qF3 Hbk.o (by omega)) H64.o h64e (by rw[hel,HLE.o];exact Nat.le_refl _) (by omega);have hsl:=qD7 H64.o h64e (qBO c.items.length f).length (by omega);obtain⟨sm,hsm⟩:=eX (qCZ ws (qBO c.items.length f) (qBO c.items.length f).length);rw[hsm]at hwa hsl;have HSM:Hid (qFi ws c.items.length f=sm):=hZ hsm;have HSL:=hZ hsl;refine⟨trivial,qB7 (hwa.mono ?_)⟩;clear hwa h64e hel hsl hsm hmem mw;rintro e W3 ⟨⟨v3,rfl,hI3⟩,hB3⟩;obtain⟨a3,n3,c3,rfl,hm3⟩:=hI3.form;obtain⟨s3,hs3⟩:=eX (decide (sm<0));rw[hs3]at hI3 ⊢;obtain⟨b3,hb3⟩:=eX W3.heap.size;obtain⟨W3b,hW3b⟩:=eX (W3.alloc (.cells #[.bool s3,.slice a3 n3 c3] 73));have hBb:Below W3.heap.size W3 W3b:=by rw[<-hW3b];exact aR
   have HT3:Hid (Two W3b b3 73 (.bool s3) (.slice a3 n3 c3)):=hZ (by rw[<-hW3b,<-hb3];exact Two.new _ _ _ _);have HI3:=hZ (hI3.below hBb);have HB3:=hZ (hB3.trans (hBb.mono hB3.size));have t0:=HT3.o.cell0;have t1:=HT3.o.cell1;clear hI3 hB3 hm3 hs3 hBb;simp only[]
   repeat (first|go_values|gi_guarded|gi_step|gi_upon)
   clear t0 t1
   try rw[hW3b]
   clear hW3b;have hsg:=qHm _ sm W3b HI3.o HSL.o;refine⟨trivial,qB7 (hsg.mono ?_)⟩;clear hsg;rintro e W4 ⟨rfl,hB4⟩;replace HI3:=hZ (HI3.o.below hB4);replace HT3:=hZ (HT3.o.below hB4 HT3.o.lt);have t0:=HT3.o.cell0;have t1:=HT3.o.cell1;have HB4:=hZ (HB3.o.trans (hB4.mono HB3.o.size));clear hB4;simp only[];by_cases hs0:sm=0
   ·have q3:(qAV sm 0==0)=true:=by rw[(qEp sm).2 hs0];rfl
    obtain⟨cm,hcm⟩:=eX (qAV sm 0);rw[hcm]at q3 ⊢;clear hcm
    repeat (first|go_values|gi_guarded|gi_step|gi_upon)
    have HO4:Hid (qAc (fun b=>b=l) W W4):=hZ (HO2.o.trans (qAc.of_below HB4.o));have Hl4:Hid (W4.heap[l]? =some (.loop (rec .busy none))):=hZ ((HB4.o.block _ (Array.getElem?_eq_some_iff.1 Hl2.o).1).trans Hl2.o);refine⟨Hl4.o,?_⟩;have hOY:=qAo W4 l (.loop (rec .ready none));have hrY:(W4.putObj l (.loop (rec .ready none))).heap[l]? =some (.loop (rec .ready none)):=World.putObj_heap_same (Array.getElem?_eq_some_iff.1 Hl4.o).1;obtain⟨Y,hY⟩:=eX (W4.putObj l (.loop (rec .ready none)));rw[hY]at hOY hrY ⊢;have hS1:qAc (fun b=>b=l) W Y:=HO4.o.trans hOY;refine⟨.inl ⟨rfl,HJ.o.on.trans (hS1.mono (fun b hb=> .inr (.inl hb))),Nat.le_trans hsz hS1.size,hrY,hS1.one HJ.o.r0 (by omega),hS1.one HJ.o.r1 (by omega),hS1.one HJ.o.r2 (by omega),fun q x hq hx=> ?_⟩,(qB6 hS1 (fun b hb=>by omega)).keepsT⟩;rcases Nat.lt_or_ge q k with h|h
    ·exact HJ.o.no q x h hx
    ·obtain rfl:q=k:=by omega
     rw[Hk.o]at hx;injection hx with hx;rw[<-hx]
     show qFi ws c.items.length f=0
     rw[HSM.o,hs0]
   ·have q3:(qAV sm 0==0)=false:=by simpa using fun h=>hs0 ((qEp sm).1 h)
    have hc3:qAV sm 0=if 0<sm then 1 else -1:=by
     unfold qAV
     split
     ·rw[if_neg (by omega)]
     ·rw[if_pos (by omega),if_pos (by omega)]
    obtain⟨cm,hcm⟩:=eX (qAV sm 0);rw[hcm]at q3 hc3 ⊢;clear hcm
    repeat (first|go_values|gi_guarded|gi_step|gi_upon)
    clear t0 t1 q3;have hsl9:=qD8 _ sm W4 HI3.o HSL.o;refine⟨trivial,qB7 (hsl9.mono ?_)⟩;clear hsl9;rintro e W5 ⟨rfl,hB5⟩;have HB5:=hZ (HB4.o.trans (hB5.mono HB4.o.size));clear hB5;simp only[];have hr40:=Hr20.o.below HB5.o Hr20.o.lt;have hr41:=Hr21.o.below HB5.o Hr21.o.lt;have hr42:=Hr22.o.below HB5.o Hr22.o.lt;have mr0:=hr40.cell;have mr1:=hr41.cell;have mr2:=hr42.cell;have mf0:=hr40.frozen;have mf1:=hr41.frozen;have mf2:=hr42.frozen;have HO5:Hid (qAc (fun b=>b=l) W W5):=hZ (HO2.o.trans (qAc.of_below HB5.o));have Hl5:Hid (W5.heap[l]? =some (.loop (rec .busy none))):=hZ ((HB5.o.block _ (Array.getElem?_eq_some_iff.1 Hl2.o).1).trans Hl2.o);have HR40:=hZ hr40;have HR41:=hZ hr41;have HR42:=hZ hr42;clear hr40 hr41 hr42;unfold qCn;by_cases hfit: -9223372036854775808<=sm/\sm<=9223372036854775807
    ·rw[if_pos hfit]
     have HFI:=hZ hfit;obtain⟨hfa,hfb⟩:=hfit
     repeat (first|go_values|gi_guarded|gi_step|gi_upon)
     clear mr0 mr1 mr2 mf0 mf1 mf2;have hz3:=qRt (v0:=.int .i64 (i:Int)) (v1:=.int .i64 (sm)) (v2:=.bool true) HR40.o HR41.o HR42.o;obtain⟨W6,hW6⟩:=eX (((W5.setCell ⟨rb,0,none⟩ (.int .i64 (i:Int))).setCell ⟨rb+1,0,none⟩ (.int .i64 (sm))).setCell ⟨rb+2,0,none⟩ (.bool true));rw[hW6]at hz3;obtain⟨k0,k1,k2,k3⟩:=hz3;have hl6:W6.heap[l]? =some (.loop (rec .busy none)):=(k3.block _ (Array.getElem?_eq_some_iff.1 Hl5.o).1 (by omega)).trans Hl5.o;rw[hW6];refine⟨hl6,?_⟩;have hOY:=qAo W6 l (.loop (rec .done (some .ret)));have hrY:(W6.putObj l (.loop (rec .done (some .ret)))).heap[l]? =some (.loop (rec .done (some .ret))):=World.putObj_heap_same (Array.getElem?_eq_some_iff.1 hl6).1;obtain⟨Y,hY⟩:=eX (W6.putObj l (.loop (rec .done (some .ret))));rw[hY]at hOY hrY ⊢;have hS1:qAc (fun b=>rb<=b/\b<rb+3\/b=l) W Y:=((HO5.o.mono (fun b hb=> .inr hb)).trans (k3.mono (fun b hb=> .inl hb))).trans (hOY.mono (fun b hb=> .inr hb));refine⟨.inr ⟨rfl,HJ.o.on.trans (hS1.mono (fun b hb=>by omega)),hrY,_,_,hOY.one k0 (by omega),hOY.one k1 (by omega),hOY.one k2 (by omega),?_⟩,(qB6 hS1 (fun b hb=>by omega)).keepsT⟩;rw[qDE Hk.o HJ.o.no (by show qFi ws c.items.length f≠0;rw[HSM.o];exact hs0)]
     show(((i:Nat):Int),qCr (qFi ws c.items.length f),true)=_
     rw[HSM.o];rw[qCr,if_pos HFI.o]
    ·rw[if_neg hfit]
     have HFI:=hZ hfit;clear hfit;by_cases hp:0<sm
     ·rw[if_pos hp]at hc3
      have HP:=hZ hp;subst hc3
      repeat (first|go_values|gi_guarded|gi_step|gi_upon)
      clear mr0 mr1 mr2 mf0 mf1 mf2;have hz3:=qRt (v0:=.int .i64 (i:Int)) (v1:=.int .i64 (9223372036854775807)) (v2:=.bool true) HR40.o HR41.o HR42.o;obtain⟨W6,hW6⟩:=eX (((W5.setCell ⟨rb,0,none⟩ (.int .i64 (i:Int))).setCell ⟨rb+1,0,none⟩ (.int .i64 (9223372036854775807))).setCell ⟨rb+2,0,none⟩ (.bool true));rw[hW6]at hz3;obtain⟨k0,k1,k2,k3⟩:=hz3;have hl6:W6.heap[l]? =some (.loop (rec .busy none)):=(k3.block _ (Array.getElem?_eq_some_iff.1 Hl5.o).1 (by omega)).trans Hl5.o;rw[hW6];refine⟨hl6,?_⟩;have hOY:=qAo W6 l (.loop (rec .done (some .ret)));have hrY:(W6.putObj l (.loop (rec .done (some .ret)))).heap[l]? =some (.loop (rec .done (some .ret))):=World.putObj_heap_same (Array.getElem?_eq_some_iff.1 hl6).1;obtain⟨Y,hY⟩:=eX (W6.putObj l (.loop (rec .done (some .ret))));rw[hY]at hOY hrY ⊢;have hS1:qAc (fun b=>rb<=b/\b<rb+3\/b=l) W Y:=((HO5.o.mono (fun b hb=> .inr hb)).trans (k3.mono (fun b hb=> .inl hb))).trans (hOY.mono (fun b hb=> .inr hb));refine⟨.inr ⟨rfl,HJ.o.on.trans (hS1.mono (fun b hb=>by omega)),hrY,_,_,hOY.one k0 (by omega),hOY.one k1 (by omega),hOY.one k2 (by omega),?_⟩,(qB6 hS1 (fun b hb=>by omega)).keepsT⟩;rw[qDE Hk.o HJ.o.no (by show qFi ws c.items.length f≠0;rw[HSM.o];exact hs0)]
      show(((i:Nat):Int),qCr (qFi ws c.items.length f),true)=_
      rw[HSM.o];rw[qCr,if_neg HFI.o,if_pos HP.o]
     ·rw[if_neg hp]at hc3
      have HP:=hZ hp;subst hc3
      repeat (first|go_values|gi_guarded|gi_step|gi_upon)
      clear mr0 mr1 mr2 mf0 mf1 mf2;have hz3:=qRt (v0:=.int .i64 (i:Int)) (v1:=.int .i64 (-9223372036854775808)) (v2:=.bool true) HR40.o HR41.o HR42.o;obtain⟨W6,hW6⟩:=eX (((W5.setCell ⟨rb,0,none⟩ (.int .i64 (i:Int))).setCell ⟨rb+1,0,none⟩ (.int .i64 (-9223372036854775808))).setCell ⟨rb+2,0,none⟩ (.bool true));rw[hW6]at hz3;obtain⟨k0,k1,k2,k3⟩:=hz3;have hl6:W6.heap[l]? =some (.loop (rec .busy none)):=(k3.block _ (Array.getElem?_eq_some_iff.1 Hl5.o).1 (by omega)).trans Hl5.o;rw[hW6];refine⟨hl6,?_⟩;have hOY:=qAo W6 l (.loop (rec .done (some .ret)));have hrY:(W6.putObj l (.loop (rec .done (some .ret)))).heap[l]? =some (.loop (rec .done (some .ret))):=World.putObj_heap_same (Array.getElem?_eq_some_iff.1 hl6).1;obtain⟨Y,hY⟩:=eX (W6.putObj l (.loop (rec .done (some .ret))));rw[hY]at hOY hrY ⊢;have hS1:qAc (fun b=>rb<=b/\b<rb+3\/b=l) W Y:=((HO5.o.mono (fun b hb=> .inr hb)).trans (k3.mono (fun b hb=> .inl hb))).trans (hOY.mono (fun b hb=> .inr hb));refine⟨.inr ⟨rfl,HJ.o.on.trans (hS1.mono (fun b hb=>by omega)),hrY,_,_,hOY.one k0 (by omega),hOY.one k1 (by omega),hOY.one k2 (by omega),?_⟩,(qB6 hS1 (fun b hb=>by omega)).keepsT⟩;rw[qDE Hk.o HJ.o.no (by show qFi ws c.items.length f≠0;rw[HSM.o];exact hs0)]
      show(((i:Nat):Int),qCr (qFi ws c.items.length f),true)=_
      rw[HSM.o];rw[qCr,if_neg HFI.o,if_neg HP.o]
  have hE:qR2 n0 l bc w (.slice ai c.items.length ci) (.slice ar c.rules.length cr) c (BrJ Wb c ws rb l n0 rec) (BrX Wb c ws rb l n0 rec):=by
   refine⟨fun k W W' h hb=>h.below (hb.below (Below.refl _ _) h.sz (fun _ hk=>Nat.le_of_eq hk.symm)) (by omega) (by omega),HC.o,by have:=HBE.o.size;have:=HZ.o;omega,fun k W h=>⟨h.sz,?_,h.on.below HBE.o HBE.o.size (fun b hb=>by omega)⟩,by omega,hY⟩;have hx:=HBC.o;have hnb:¬((fun b=>rb<=b/\b<rb+3\/b=l\/n0<=b) bc):=by simp only[];omega
   exact⟨Nat.lt_of_lt_of_le hx.lt h.on.size,(h.on.cell (p:=⟨bc,0,none⟩) hnb hx.lt).trans hx.c0,(h.on.cell (p:=⟨bc,1,none⟩) hnb hx.lt).trans hx.c1,(h.on.cell (p:=⟨bc,2,none⟩) hnb hx.lt).trans hx.c2,(h.on.cell (p:=⟨bc,3,none⟩) hnb hx.lt).trans hx.c3⟩
  have hsq:=qDb (l:=l) (bc:=bc) Wb (by rw[HZ.o];exact hE) HF.o.good HJ0.o;refine(callsIn_wide.2 (by simpa using hsq)).mono ?_;clear hsq hE hY HJ0;rintro e W3 ⟨hv,hE⟩;refine⟨hv,?_⟩;clear hv hrec;rcases hE with hE|hE
  ·refine .inl ⟨hE.rd,?_⟩
   have HHB:Hid (qOi c ws=(0,0,false)):=hZ (by
    unfold qOi;rw[if_pos HLE.o];refine qJf (fun x hx=> ?_);obtain⟨q,hq,hqe⟩:=List.mem_iff_getElem.1 hx;exact hE.no q x hq (by rw[List.getElem?_eq_getElem hq,hqe]))
   have hO4:=qAo W3 l (.loop (rec .exhausted none));obtain⟨W4,hW4⟩:=eX (W3.putObj l (.loop (rec .exhausted none)));rw[hW4]at hO4 ⊢;have HO4:=hZ (hE.on.trans (hO4.mono (fun b hb=> .inr (.inl hb))));have HR40:=hZ (hO4.one hE.r0 (by omega));have HR41:=hZ (hO4.one hE.r1 (by omega));have HR42:=hZ (hO4.one hE.r2 (by omega));have mr0:=HR40.o.cell;have mr1:=HR41.o.cell;have mr2:=HR42.o.cell;have mf0:=HR40.o.frozen;have mf1:=HR41.o.frozen;have mf2:=HR42.o.frozen;clear hW4 hO4 hE;simp only[Exit.inBlock,Exit.then]
   repeat (first|go_values|go_step)
   clear mr0 mr1 mr2 mf0 mf1 mf2;have hz3:=qRt (v0:=.int .i64 0) (v1:=.int .i64 0) (v2:=.bool false) HR40.o HR41.o HR42.o;obtain⟨X,hX⟩:=eX (((W4.setCell ⟨rb,0,none⟩ (.int .i64 0)).setCell ⟨rb+1,0,none⟩ (.int .i64 0)).setCell ⟨rb+2,0,none⟩ (.bool false));rw[hX]at hz3;obtain⟨k0,k1,k2,k3⟩:=hz3;rw[hX];have hOX2:=HO4.o.trans (k3.mono (fun b hb=> .inl hb));have hDX:X.heap[lD]? =some (.deferred (some [])):=(hOX2.block _ (by have:=HZ.o;omega) (by omega)).trans HDb.o;refine⟨by simp,.inl ⟨_,_,rfl,run_takeDeferred hDX,?_⟩⟩;have hO5:=qAo X lD (.deferred none);obtain⟨Y,hY⟩:=eX (X.putObj lD (.deferred none));rw[hY]at hO5 ⊢;have d0:=(hO5.one k0 (by omega)).cell;have d1:=(hO5.one k1 (by omega)).cell;have d2:=(hO5.one k2 (by omega)).cell;have hBY:Below w.heap.size w Y:=by
    have h1:qAc (fun b=>rb<=b/\b<rb+3\/b=l\/n0<=b\/b=lD) Wb Y:=(hOX2.mono (fun b hb=>by omega)).trans (hO5.mono (fun b hb=>by omega));exact h1.below HBE.o HBE.o.size (fun b hb=>by omega)
   refine⟨.tuple #[.int .i64 0,.int .i64 0,.bool false],by simp[results,Tryz.results24,go_sem,d0,d1,d2],?_,hBY⟩;rw[HHB.o];rfl
  ·refine .inr ⟨hE.rd,?_⟩
   have hO4:=qAo W3 l (.loop (rec .exhausted (some .ret)));obtain⟨W4,hW4⟩:=eX (W3.putObj l (.loop (rec .exhausted (some .ret))));rw[hW4]at hO4 ⊢;have hOX2:=hE.on.trans (hO4.mono (fun b hb=> .inr (.inl hb)));obtain⟨bi,bz,k0,k1,k2,hbk⟩:=hE.ex;simp only[Exit.inBlock,Exit.then];have hDX:W4.heap[lD]? =some (.deferred (some [])):=(hOX2.block _ (by have:=HZ.o;omega) (by omega)).trans HDb.o;refine⟨by simp,.inl ⟨_,_,rfl,run_takeDeferred hDX,?_⟩⟩;have hO5:=qAo W4 lD (.deferred none);obtain⟨Y,hY⟩:=eX (W4.putObj lD (.deferred none));rw[hY]at hO5 ⊢;have d0:=(hO5.one (hO4.one k0 (by omega)) (by omega)).cell;have d1:=(hO5.one (hO4.one k1 (by omega)) (by omega)).cell;have d2:=(hO5.one (hO4.one k2 (by omega)) (by omega)).cell;have hBY:Below w.heap.size w Y:=by
    have h1:qAc (fun b=>rb<=b/\b<rb+3\/b=l\/n0<=b\/b=lD) Wb Y:=(hOX2.mono (fun b hb=>by omega)).trans (hO5.mono (fun b hb=>by omega));exact h1.below HBE.o HBE.o.size (fun b hb=>by omega)
   refine⟨.tuple #[.int .i64 bi,.int .i64 bz,.bool true],by simp[results,Tryz.results24,go_sem,d0,d1,d2],?_,hBY⟩;unfold qOi;rw[if_pos HLE.o,hbk];rfl
 ·have q1:((ws.length:Int) != (c.items.length:Int))=true:=by simp;omega
  have q2:(ws.length != c.items.length)=true:=by simpa using hle
  have HHB:Hid (qOi c ws=(0,0,false)):=hZ (by unfold qOi;rw[if_neg hle])
  go_wp2_with fail
  have hz3:=qRt (v0:=.int .i64 0) (v1:=.int .i64 0) (v2:=.bool false) HR0.o HR1.o HR2.o;obtain⟨X,hX⟩:=eX (((w2.setCell ⟨w.heap.size+2,0,none⟩ (.int .i64 0)).setCell ⟨w.heap.size+2+1,0,none⟩ (.int .i64 0)).setCell ⟨w.heap.size+2+2,0,none⟩ (.bool false));rw[hX]at hz3;obtain⟨k0,k1,k2,k3⟩:=hz3;have d0:=k0.cell;have d1:=k1.cell;have d2:=k2.cell;have hBX:Below w.heap.size w X:=k3.below HB.o HB.o.size (fun b hb=>by omega);rw[hX];refine⟨.tuple #[.int .i64 0,.int .i64 0,.bool false],by simp[results,Tryz.results24,go_sem,d0,d1,d2],?_,hBX⟩;rw[HHB.o];rfl
theorem qHd(vi vr vw:Value)(c:Cat)(ws:List Int)(w:World)(hc:qAS w vi vr c)(hf:qL8 c)(hw:qAg w vw ws)(h64:B64 ws)(hK:qAZ w):
 Calls Tryz.prog 24 #[qBo vi vr,vw] w fun e w'=>e=.returned (qRZ (qOi c ws))/\Below w.heap.size w w':=callsIn_wide.1 (qKj vi vr vw c ws w hc hf hw h64 hK)
def qMz(first neg:Bool):Tx:=if first then (if neg then [45]else [])else (if neg then [32,45,32]else [32,43,32])
def lnT(N:List Tx)(w:List Int):Nat->Tx
 |0=>[]
 |k+1=>if w.getD k 0=0 then lnT N w k else lnT N w k++(qMz (decide (lnT N w k=[])) (decide (w.getD k 0<0))++(dec (w.getD k 0).natAbs++32::N.getD k []))
def qJs(l:Tx):Tx:=if l=[]then [48]else l
def qLK(N:List Tx)(w:List Int):Tx:=qJs (lnT N w w.length)
def prT(N:List Tx)(l:List (List Int)):Nat->Tx
 |0=>[]
 |k+1=>prT N l k++(qLK N (l.getD k [])++[10])
theorem qOP{N:List Tx}{w:List Int}{k:Nat}(h:w.getD k 0=0):lnT N w (k+1)=lnT N w k:=by rw[lnT,if_pos h]
theorem qNd{N:List Tx}{w:List Int}{k:Nat}(h:w.getD k 0≠0):lnT N w (k+1)=lnT N w k++(qMz (decide (lnT N w k=[])) (decide (w.getD k 0<0))++(dec (w.getD k 0).natAbs++32::N.getD k [])):=by rw[lnT,if_neg h]
theorem qRx{N:List Tx}{w:List Int}{k:Nat}(h:w.getD k 0≠0):lnT N w (k+1)≠[]:=by
 rw[qNd h];intro e;have:=congrArg List.length e;simp at this
theorem qMy(a b:Bool):(qMz a b).length<=3:=by cases a<;>cases b<;>simp[qMz]
theorem qK4{x:Int}(h: -9223372036854775808<=x/\x<=9223372036854775807):(dec x.natAbs).length<=20:=qHa _ 20 (by omega) (by omega)
theorem qNc{N:List Tx}{w:List Int}(hN:∀n∈N,n.length<=1000)(hw:∀x∈w, -9223372036854775808<=x/\x<=9223372036854775807):∀k,(lnT N w k).length<=1100*k
 |0=>by simp[lnT]
 |k+1=>by
  have ih:=qNc hN hw k;have h1:=qMy (decide (lnT N w k=[])) (decide (w.getD k 0<0));have h2:(dec (w.getD k 0).natAbs).length<=20:=by
   refine qK4 ?_;rw[List.getD_eq_getElem?_getD];rcases Nat.lt_or_ge k w.length with h|h
   ·rw[List.getElem?_eq_getElem h];exact hw _ (List.getElem_mem h)
   ·rw[List.getElem?_eq_none h];simp
  have h3:(N.getD k []).length<=1000:=by
   rw[List.getD_eq_getElem?_getD];rcases Nat.lt_or_ge k N.length with h|h
   ·rw[List.getElem?_eq_getElem h];exact hN _ (List.getElem_mem h)
   ·rw[List.getElem?_eq_none h];simp
  rw[lnT]
  split
  ·omega
  ·simp only[List.length_append,List.length_cons]
   omega
theorem qOR{N:List Tx}{w:List Int}(hN:∀n∈N,n.length<=1000)(hw:∀x∈w, -9223372036854775808<=x/\x<=9223372036854775807):(qLK N w).length<=1100*w.length+1:=by
 have:=qNc hN hw w.length;unfold qLK qJs
 split
 ·simp
 ·omega
theorem qPC{N:List Tx}{l:List (List Int)}{n:Nat}(hN:∀n∈N,n.length<=1000)(hl:∀w∈l,w.length=n/\∀x∈w, -9223372036854775808<=x/\x<=9223372036854775807):∀k,k<=l.length->(prT N l k).length<=(1100*n+2)*k
 |0,_=>by simp[prT]
 |k+1,hk=>by
  have ih:=qPC hN hl k (by omega);have h1:l.getD k []∈l:=by rw[List.getD_eq_getElem?_getD,List.getElem?_eq_getElem (show k<l.length by omega)];exact List.getElem_mem _
  obtain⟨h2,h3⟩:=hl _ h1;have h4:=qOR hN h3;rw[h2]at h4;rw[prT,Nat.mul_succ];simp only[List.length_append,List.length_cons,List.length_nil];omega
theorem qOU:prT [[111,114,101],[98,97,114],[99,111,105,110]] [[2,6,1]] 1=[50,32,111,114,101,32,43,32,54,32,98,97,114,32,43,32,49,32,99,111,105,110,10]:=by decide +kernel
theorem qHe:Builder.Extra Tryz.prog Tryz.lays105_ren where
 sizeBuilder:=by kernel_rfl
 liesBuilder:=by kernel_rfl
 t5:=Tryz.underlying5
 a5:=Tryz.isAgg5
 z5:=Tryz.sizeOf5
 v5:=Tryz.zeroValue5
 infoByte:=by kernel_rfl
 cellsByte:=by kernel_rfl
 sizeByte:=by kernel_rfl
 neB5:=by decide
theorem qNm:Go.Proofs.Lays.n169 Tryz.prog Tryz.lays105_ren:={ Tryz.lays105 with }
theorem qQq:Go.Proofs.Lays.n240 Tryz.prog Tryz.lays105_ren:={ Tryz.lays105 with }
theorem qNn:Go.Proofs.Lays.n166 Tryz.prog Tryz.lays105_ren:={ Tryz.lays105 with }
theorem qN8(B b:Nat)(bs:List Value)(w:World)(h:Lib.IsBuilder 97 5 B b bs w):
 Calls Tryz.prog 138 #[.pointer (some ⟨b,0,none⟩)] w fun e w'=>e=.returned (.tuple #[])/\(Lib.BuilderAt 97 5 B b (.pointer (some ⟨b,0,none⟩)) bs w'/\Below B w w'):=
 Any.Builder_copyCheck qQq qHe.toX72 B b bs w h
theorem qGp(B b:Nat)(bs:List Value)(s:ByteArray)(w:World)(h:Lib.IsBuilder 97 5 B b bs w)(hlen:bs.length+s.size<=140737488355328)(hBw:B<=w.heap.size):
 Calls Tryz.prog 63 #[.pointer (some ⟨b,0,none⟩),.string s] w fun e w'=>e=.returned (.tuple #[.int .i64 s.size,.nilIface])/\(Lib.BuilderAt 97 5 B b (.pointer (some ⟨b,0,none⟩)) (bs++Lib.strCells s) w'/\Below B w w'):=
 Any.Builder_WriteString qNn qHe B b bs s w h hlen hBw
theorem qSj:(Tryz.prog.info? 5).map (fun i=>(i.zero,i.size,i.bytes))=some (some (.int .u8 0),1,1):=by kernel_rfl
theorem qN9(B b:Nat)(bs:List Value)(c:Int)(w:World)(h:Lib.IsBuilder 97 5 B b bs w)(hlen:bs.length+1<=140737488355328)(hBw:B<=w.heap.size):
 Calls Tryz.prog 142 #[.pointer (some ⟨b,0,none⟩),.int .u8 c] w fun e w'=>e=.returned .nilIface/\(Lib.BuilderAt 97 5 B b (.pointer (some ⟨b,0,none⟩)) (bs++[.int .u8 c]) w'/\Below B w w'):=by
 obtain⟨i0,hi,hz0,hz1,hz2⟩:=info_parts qSj;have H:=hZ h;clear h
 go_enter Tryz.func142,Tryz.ntmps142
 go_wp2_with fail
 refine(qN8 B b bs w H.o).mono ?_;rintro e w1 ⟨rfl,⟨hB,v,hbk,hown,hne⟩,hb1⟩;have c0:w1.cell? ⟨b,0,none⟩=some (.pointer (some ⟨b,0,none⟩)):=by rw[Lib.cell_of_heap hbk];rfl
 have c1:w1.cell? ⟨b,1,none⟩=some v:=by rw[Lib.cell_of_heap hbk];rfl
 have Hbk:=hZ hbk;have Hown:=hZ hown;have Hb1:=hZ hb1;have z1:=hb1.size;have hlt:b<w1.heap.size:=by
  rcases Nat.lt_or_ge b w1.heap.size with h'|h'
  ·exact h'
  ·rw[Array.getElem?_eq_none h']at hbk;cases hbk
 clear hbk hown hb1
 go_wp2_with (at_builtin;refine wpList_append_own _ rfl _ _ 95 rfl B 5 i0 (.int .u8 0) 1 1 Tryz.underlying95 hi hz0 hz1 hz2 rfl (by decide) _ _ _ rfl (Hown.o.alloc _) ⟨w1.heap.size,0,none⟩ 1 1 [.int .u8 c] rfl rfl ?c1 ?c2 ?c3 ?c4 ?c5 ?_)
 case c1=>
  intro j u hj
  match j,hj with
  |0,hj=>simp at hj;subst hj;simp[Addr.add]
 case c2=>intro u hu;simp at hu;subst hu;rfl
 case c3=>unfold maxLen;omega
 case c4=>omega
 case c5=>simp;omega
 intro v' w2 hown' hgrow _;have hbk2:w2.heap[b]? =some (.cells #[.pointer (some ⟨b,0,none⟩),v] 97 (0,0)):=by
  rw[hgrow.block b (by simp;omega) (by rw[ne_comm];exact hne)];exact(Below.heap_alloc w1 _ b hlt).trans Hbk.o
 obtain⟨g2,cap2,hv2,_⟩:=hown'.form (by omega);subst hv2;have d0:w2.cell? ⟨b,0,none⟩=some (.pointer (some ⟨b,0,none⟩)):=by rw[Lib.cell_of_heap hbk2];rfl
 have d1:w2.cell? ⟨b,1,none⟩=some v:=by rw[Lib.cell_of_heap hbk2];rfl
 have f1:w2.frozen? ⟨b,1,none⟩=false:=Lib.frozen_of_heap hbk2 1;have Hown':=hZ hown';have Hgrow:=hZ hgrow;have Hbk2:=hZ hbk2;clear hown' hgrow hbk2
 go_wp2
 go_ret;refine⟨rfl,Lib.BuilderAt.put hB Hbk2.o (by simpa using Hown'.o) (by decide),?_⟩;exact((Hb1.o.alloc (by omega) _).grown Hgrow.o (by simp;omega) (fun r e=>(Hown.o.lt r e).1)).setCell (p:=⟨b,1,none⟩) hB _
theorem qJe(B b:Nat)(l:List UInt8)(w:World)(h:Lib.IsBuilder 97 5 B b (Lib.byteCells l) w)(hBw:B<=w.heap.size):
 Calls Tryz.prog 65 #[.pointer (some ⟨b,0,none⟩)] w fun e w'=>e=.returned (.string ⟨l.toArray⟩)/\Below B w w':=
 Any.Builder_String_any qNm qHe B b l w h hBw
theorem qLz(s:ByteArray)(c:Nat)(w:World)(hc:c<=9223372036854775807)(hlen:s.size*c<=140737488355328):
 Calls Tryz.prog 141 #[.string s,.int .i64 c] w fun e w'=>e=.returned (.string ⟨(Lib.repeatL s.data.toList c).toArray⟩)/\Below w.heap.size w w':=
 Any.strings_Repeat Tryz.lays105 qHe s c w hc hlen
theorem qOX(n:Nat):Lib.itoa (n:Int)=dec n:=by
 have h:∀u:Nat,Lib.decDigits u=dec u:=by
  intro u
  induction u using Nat.strongRecOn with
  |_ u ih=>
   rw[Lib.decDigits];by_cases h:u<10
   ·rw[dif_pos h]
    unfold dec;by_cases h0:u=0
    ·subst h0;rfl
    ·rw[if_neg h0,qEn u h0,Nat.div_eq_of_lt h,Nat.mod_eq_of_lt h,qGj];rfl
   ·rw[dif_neg h,ih (u/10) (by omega)]
    unfold dec;rw[if_neg (by omega),if_neg (by omega),qEn u (by omega)];rfl
 unfold Lib.itoa;rw[if_neg (by omega),Int.toNat_natCast,h]
theorem qFK(c:Nat):Lib.repeatL [48] c=List.replicate c 48:=by
 induction c with
 |zero=>rfl
 |succ c ih=>rw[Lib.repeatL,ih,List.replicate_succ];rfl
abbrev P9:Nat:=1000000000
theorem qDM:2<=P9:=by decide
def gtl:List Nat->List Tx
 |[]=>[]
 |[x]=>[dec x]
 |x::y::l=>pad 9 x::gtl (y::l)
theorem qHM(x:Nat)(l:List Nat):gtl (x::l)=(if l=[]then dec x else pad 9 x)::gtl l:=by
 cases l with
 |nil=>rfl
 |cons y l=>rfl
theorem qEK:∀l:List Nat,(gtl l).length=l.length
 |[]=>rfl
 |x::l=>by rw[qHM,List.length_cons,qEK l];rfl
theorem qNs:∀l:List Nat,(gtl l).reverse.flatten=grp 9 l
 |[]=>rfl
 |[x]=>by simp[gtl,grp]
 |x::y::l=>by
  have ih:=qNs (y::l);rw[gtl,List.reverse_cons,List.flatten_append,ih,grp];simp
theorem qNt(m:Nat)(hm:m≠0):(gtl (qAm P9 m)).reverse.flatten=dec m:=by
 rw[qNs,qNu 9 (by omega) (qAm P9 m) (fun h=>hm ((qBB P9 m qDM).1 h)) (qAv P9 qDM m) (.inl (qGg P9 qDM m))];exact congrArg dec (qAu P9 qDM m)
theorem qO2(r:Nat)(hr:r≠0):gtl (qAm P9 r)=(if r/P9=0 then dec (r%P9)else pad 9 (r%P9))::gtl (qAm P9 (r/P9)):=by
 rw[qBt P9 r qDM hr,qHM];by_cases h:r/P9=0
 ·rw[h,if_pos (qA3 P9),if_pos rfl]
 ·rw[if_neg h,if_neg (fun h2=>h ((qBB P9 _ qDM).1 h2))]
theorem qRy:LIM<=P9^549:=by rw[<-qKN];decide +kernel
theorem qRr(m:Nat)(h:m<LIM):(qAm P9 m).length<=549:=qBh P9 qDM 549 m (Nat.lt_of_lt_of_le h qRy)
theorem qIP(l:List Nat)(hl:Low P9 l):∀t∈gtl l,t.length<=9:=by
 induction l with
 |nil=>intro t ht;cases ht
 |cons x l ih=>
  rw[qHM];intro t ht;rcases List.mem_cons.1 ht with rfl|ht
  ·have hx:x<10^9:=hl x (List.mem_cons_self ..)
   split
   ·exact qHa x 9 (by omega) hx
   ·rw[qJI];exact Nat.le_refl _
  ·exact ih (fun y hy=>hl y (List.mem_cons_of_mem _ hy)) t ht
def qC1(w:World):Prop:=Lib.TabIs Tryz.prog w "internal/strconv.uint64pow10" .u64 Lib.pow10Tab
theorem gPow:Tryz.prog.globalNamed "internal/strconv.uint64pow10" =some 0:=by kernel_rfl
theorem qC1.below{w w':World}{B:Nat}(h:qC1 w)(hb:Below B w w')(h0:0<B):qC1 w':=by
 unfold qC1 Lib.TabIs World.var? at h ⊢;rw[gPow]at h ⊢;simp only[Option.bind_some,hb.block _ h0]at h ⊢;exact h
theorem qC1.lt{w:World}(h:qC1 w):0<w.heap.size:=by
 have hc:=Lib.TabIs.cell h gPow 0 (by decide);exact World.block_lt_of_cell? w _ hc
theorem qOY(n:Nat)(w:World)(hn:n<4294967296)(hT:qC1 w):
 Calls Tryz.prog 140 #[.int .i64 (n:Int)] w fun e w'=>e=.returned (.string ⟨(dec n).toArray⟩)/\Below w.heap.size w w':=by
 refine(Tryz.strconv_Itoa (n:Int) (by omega) (by omega) w hT).mono ?_;rintro e w' ⟨rfl,k,os,rfl⟩;refine⟨by rw[qOX],⟨rfl,rfl,rfl,?_,fun j hj=> ?_⟩⟩
 ·show w.heap.size<=(w.heap++os).size
  rw[Array.size_append];omega
 ·show(w.heap++os)[j]? =w.heap[j]?
  rw[Array.getElem?_append_left hj]
theorem qEU(a b:Tx):(⟨a.toArray⟩:ByteArray)++⟨b.toArray⟩=⟨(a++b).toArray⟩:=by
 apply ByteArray.ext;rw[ByteArray.data_append];simp
theorem qKS:∀(L:List Tx),(∀t∈L,t.length<=9)->(L.map List.length).sum<=9*L.length
 |[],_=>by simp
 |t::L,h=>by
  have h1:=qKS L (fun u hu=>h u (List.mem_cons_of_mem _ hu));have h2:=h t (List.mem_cons_self ..);simp only[List.map_cons,List.sum_cons,List.length_cons];omega
theorem qQz:(Tryz.prog.info? 9).map (fun i=>(i.zero,i.size,i.bytes))=some (some (.string ⟨#[]⟩),1,16):=by kernel_rfl
theorem qJz(a:Option Addr)(c:Nat)(_hc:c<=9223372036854775807)(w:World)(b:Bool):
 Calls Tryz.prog 64 #[.agg #[.bool b,.slice a 0 c]] w fun e w'=>e=.returned (.string ⟨#[48]⟩)/\Below w.heap.size w w':=by
 go_enter Tryz.func64,Tryz.ntmps64
 go_wp2
 go_ret;exact⟨rfl,aR⟩
theorem qLp(sx:Bool)(a:Option Addr)(l c m:Nat)(w:World)(hm:qAK w (.slice a l c) m)(hlm:m<LIM)(hm0:m≠0)(hT:qC1 w):
 Calls Tryz.prog 64 #[.agg #[.bool sx,.slice a l c]] w fun e w'=>e=.returned (sv ((if sx then [45]else [])++dec m))/\Below w.heap.size w w':=by
 obtain⟨i0,hi,hz0,hz1,hz2⟩:=info_parts qQz;have Hi:=hZ hi;have Hz0:=hZ hz0;have Hz1:=hZ hz1;have Hz2:=hZ hz2;clear hi hz0 hz1 hz2;have HT:=hZ hT;have Hm:=hZ hm;have hg0:=hT.lt;have hlen:=(qA6 m).2 hlm;have Hlm:=hZ hlm;have Hgl:=hZ (qRr m hlm);have hlpos:0<l:=by
  obtain⟨_,_,hv,_⟩:=hm;injection hv with _ e _;rw[e];exact List.length_pos_iff.2 (fun h=>hm0 ((qBB W2 m qAk).1 h))
 have hl0:((l:Int)==0)=false:=by simp;omega
 have hl1:(l==0)=false:=by simp;omega
 clear hm hlm hT;have HB1:=hZ ((Below.refl w.heap.size w).alloc (Nat.le_refl _) (.cells #[.bool sx,.slice a l c] 73));have Hcl:=hZ (qI8 (.slice a l c) m _ (qAd.below Hm.o (Nat.le_refl _) HB1.o) (by omega));have HTw:=hZ (Two.new w 73 (.bool sx) (.slice a l c));have hsz:(w.alloc (.cells #[.bool sx,.slice a l c] 73)).heap.size=w.heap.size+1:=by simp
 go_enter Tryz.func64,Tryz.ntmps64
 go_wp2_with fail
 refine Hcl.o.mono ?_;rintro e w1 ⟨a1,l1,c1,rfl,hm1,hB⟩;have HB1':=hZ (HB1.o.trans (hB.mono (by omega)));have HTw1:=hZ (HTw.o.below hB (by omega));have Hm1:=hZ hm1;have z1:w.heap.size+1<=w1.heap.size:=by rw[<-hsz];exact hB.size
 clear hB hm1 Hcl HB1 HTw hsz hl0 hl1
 go_wp2_with fail
 go_loopw [3,4] (fun gv rv wr=>∃(acc:List Tx) (r:Nat) (ga:Option Addr) (gc:Nat) (ra:Option Addr) (rc:Nat),gv=.slice ga acc.length gc/\rv=.slice ra (qAm W2 r).length rc/\Hid (acc++gtl (qAm P9 r)=gtl (qAm P9 m))/\Hid (r<=m)/\Hid (qAK wr (.slice ra (qAm W2 r).length rc) r)/\
  Hid (wr.ownsRow w1.heap.size 9 1 (.slice ga acc.length gc) acc.length (acc.map sv))/\Hid (Below w1.heap.size w1 wr)) (fun gv _ _=>550-qSe gv)
 case atStart=>
  obtain⟨a',c',hv,hr⟩:=Hm1.o;injection hv with e1 e2 e3;subst e1 e2 e3;exact⟨[],m,none,0,a1,c1,rfl,rfl,hZ rfl,hZ (Nat.le_refl _),Hm1,hZ (World.ownsRow_nil _ _ _ _),hZ (Below.refl _ _)⟩
 case round=>
  obtain⟨acc,r,ga,gc,ra,rc,rfl,rfl,hacc,hrm,hmr,hown,hBr⟩:=hrel;have z2:=hBr.o.size;have HTr:=hZ (HT.o.below (HB1'.o.trans (hBr.o.mono (by omega))) hg0);have hrl:(qAm W2 r).length<=512:=Nat.le_trans (qBk W2 qAk r m hrm.o) hlen;have hrc:rc<=9223372036854775807:=by
   obtain⟨_,_,hv,_,h3,_⟩:=hmr.o;injection hv with _ _ e;omega
  have hgc:gc<=9223372036854775807:=by
   rcases hown.o.2 with ⟨hv,_⟩|⟨_,_,_,hv,_,_,_,h3,_⟩
   ·injection hv with _ _ e;omega
   ·injection hv with _ _ e;unfold maxLen at h3;omega
  have hal:acc.length<=549:=by
   have h3:=congrArg List.length hacc.o;rw[List.length_append,qEK,qEK]at h3;have:=Hgl.o;omega
  by_cases hr0:r=0
  ·subst hr0
   rename World=>w5
   have hG:acc=gtl (qAm P9 m):=by
    have h3:=hacc.o;rw[qA3,show gtl []=[]from rfl,List.append_nil]at h3;exact h3
   have HG:=hZ hG;have h00:(qAm W2 0).length=0:=by rw[qA3];rfl
   rw[h00]at hrl hmr ⊢;have HBw:=hZ (HB1'.o.trans (hBr.o.mono (by omega)));obtain⟨wb,hwb⟩:=eX (w5.alloc (.cells #[.pointer none,.slice none 0 0] 97));have hzb:w5.heap.size<wb.heap.size:=by rw[<-hwb];simp
   have hsx:wb.cell? ⟨w.heap.size,0,none⟩=some (.bool sx):=by
    rw[<-hwb];exact((HTw1.o.below hBr.o (by omega)).alloc _).cell0
   have HBb:Hid (Below w.heap.size w wb):=hZ (by rw[<-hwb];exact HBw.o.alloc (by have:=HBw.o.size;omega) _);have Hisb:Hid (Lib.IsBuilder 97 5 w5.heap.size w5.heap.size [] wb):=hZ (by rw[<-hwb];exact Lib.fresh_isBuilder _ _ w5);have Hownb:Hid (wb.ownsRow w1.heap.size 9 1 (.slice ga acc.length gc) acc.length (acc.map sv)):=hZ (by rw[<-hwb];exact hown.o.alloc _);have Hgown:=hZ hown.o.lt;obtain⟨g,gcap,hvg,_⟩:=hown.o.form (by rw[HG.o,qEK];exact List.length_pos_iff.2 (fun h=>hm0 ((qBB P9 m qDM).1 h)));injection hvg with hv1 _ hv2;subst hv1 hv2;have hgb:g<w5.heap.size:=(Hgown.o g rfl).2;have Hcell:Hid (∀j (h:j<acc.length),wb.cell? ⟨g,j,none⟩=some (sv acc[j])):=hZ (fun j hj=>by
    rw[Hownb.o.cellAt j (by omega),List.getElem?_map,List.getElem?_eq_getElem hj];rfl)
   have Hlens:Hid (∀j (h:j<acc.length),acc[j].length<=9):=hZ (fun j hj=>qIP _ (qAv P9 qDM m) _ (by rw[<-HG.o];exact List.getElem_mem hj));have hgtot:Hid (∀j (h:j<acc.length) (sg:Tx),sg.length<=1->(sg++(acc.drop (j+1)).reverse.flatten).length+(⟨acc[j].toArray⟩:ByteArray).size<=140737488355328):=hZ (fun j hj sg hsg=>by
    have h1:=qKS (acc.drop (j+1)) (fun t ht=>by
     obtain⟨i,hi,rfl⟩:=List.getElem_of_mem ht;rw[List.getElem_drop];exact Hlens.o _ _)
    have h2:=Hlens.o j hj;have h3:(⟨acc[j].toArray⟩:ByteArray).size=acc[j].length:=rfl;rw[List.length_append,List.length_flatten,List.map_reverse,List.sum_reverse];rw[List.length_drop]at h1;omega)
   clear hG h00 hrl hmr hrm hacc HTr HTw1 Hm1 Hm Hz0 Hz1 Hz2 Hi hown;cases sx with
   |false=>
    have hsum:Hid (∀k (h:k<acc.length),(([]:Tx)++(acc.drop (k+1)).reverse.flatten:Tx).length+(⟨acc[k].toArray⟩:ByteArray).size<=140737488355328):=hZ (fun k h=>hgtot.o k h [] (by simp))
    go_wp2
    go_loopw [9] (fun v wq=>∃k:Nat,v=.int .i64 ((k:Int)-1)/\k<=acc.length/\Hid (Lib.IsBuilder 97 5 w5.heap.size w5.heap.size (Lib.byteCells (([]:Tx)++(acc.drop k).reverse.flatten)) wq)/\Hid (Below w5.heap.size wb wq)) (fun v _=>qQV v)
    case atStart=>exact⟨acc.length,rfl,Nat.le_refl _,hZ (by rw[List.drop_length];exact Hisb.o),hZ (Below.refl _ _)⟩
    case round=>
     obtain⟨k,rfl,hk,hisb,hbq⟩:=hrel;have hzq:=hbq.o.size;cases k with
     |zero=>
      rw[show(((0:Nat):Int)-1)= -1 from rfl]
      go_wp2_with fail
      refine(qJe w5.heap.size w5.heap.size _ _ hisb.o (by omega)).mono ?_;rintro e w9 ⟨rfl,hB9⟩;have HB9:=hZ (HBb.o.trans ((hbq.o.trans (hB9.mono (by omega))).mono (by omega)));clear hB9
      go_wp2
      go_ret;refine⟨?_,HB9.o⟩;rw[<-qNt m hm0,<-HG.o];rfl
     |succ k=>
      have hck:wr.cell? ⟨g,k,none⟩=some (sv acc[k]):=(hbq.o.cell (p:=⟨g,k,none⟩) hgb).trans (Hcell.o k (by omega));have Hle:=hZ (Hlens.o k (by omega));have hsm:=hZ (hsum.o k (by omega));generalize hT9:acc[k]=T9 at hck Hle hsm;have HT9:=hZ hT9;clear hT9;have e1:((k+1:Nat):Int)-1=(k:Int):=by omega
      rw[e1]
      go_wp2_with fail
      refine(qGp w5.heap.size w5.heap.size _ ⟨T9.toArray⟩ _ hisb.o (by rw[Lib.byteCells,List.length_map];exact hsm.o) (by omega)).mono ?_;rintro e w9 ⟨rfl,hat,hB9⟩;have HB9:=hZ (hbq.o.trans hB9);have Hat:Hid (Lib.IsBuilder 97 5 w5.heap.size w5.heap.size (Lib.byteCells (([]:Tx)++(acc.drop k).reverse.flatten)) w9):=hZ (.inr (by
       have e9:Lib.strCells ⟨T9.toArray⟩=Lib.byteCells T9:=rfl;rw[e9]at hat;rw[List.drop_eq_getElem_cons (by omega:k<acc.length),List.reverse_cons,List.flatten_append,HT9.o];simpa[Lib.byteCells]using hat))
      clear hat hB9 hck
      go_wp2
      go_roundw
      case rel=>exact⟨k,rfl,by omega,Hat,HB9⟩
      case measure=>simp[qQV]
   |true=>
    have hsum:Hid (∀k (h:k<acc.length),(([45]:Tx)++(acc.drop (k+1)).reverse.flatten:Tx).length+(⟨acc[k].toArray⟩:ByteArray).size<=140737488355328):=hZ (fun k h=>hgtot.o k h [45] (by simp))
    go_wp2_with fail
    refine(qN9 w5.heap.size w5.heap.size [] 45 wb Hisb.o (by simp) (by omega)).mono ?_;rintro e ws ⟨rfl,hat,hBs⟩;have HBs:=hZ hBs;have Hat:Hid (Lib.IsBuilder 97 5 w5.heap.size w5.heap.size (Lib.byteCells [45]) ws):=hZ (.inr hat);clear hat hBs
    go_wp2
    go_loopw [9] (fun v wq=>∃k:Nat,v=.int .i64 ((k:Int)-1)/\k<=acc.length/\Hid (Lib.IsBuilder 97 5 w5.heap.size w5.heap.size (Lib.byteCells (([45]:Tx)++(acc.drop k).reverse.flatten)) wq)/\Hid (Below w5.heap.size wb wq)) (fun v _=>qQV v)
    case atStart=>exact⟨acc.length,rfl,Nat.le_refl _,hZ (by rw[List.drop_length];exact Hat.o),HBs⟩
    case round=>
     obtain⟨k,rfl,hk,hisb,hbq⟩:=hrel;have hzq:=hbq.o.size;cases k with
     |zero=>
      rw[show(((0:Nat):Int)-1)= -1 from rfl]
      go_wp2_with fail
      refine(qJe w5.heap.size w5.heap.size _ _ hisb.o (by omega)).mono ?_;rintro e w9 ⟨rfl,hB9⟩;have HB9:=hZ (HBb.o.trans ((hbq.o.trans (hB9.mono (by omega))).mono (by omega)));clear hB9
      go_wp2
      go_ret;refine⟨?_,HB9.o⟩;rw[<-qNt m hm0,<-HG.o];rfl
     |succ k=>
      have hck:wr.cell? ⟨g,k,none⟩=some (sv acc[k]):=(hbq.o.cell (p:=⟨g,k,none⟩) hgb).trans (Hcell.o k (by omega));have Hle:=hZ (Hlens.o k (by omega));have hsm:=hZ (hsum.o k (by omega));generalize hT9:acc[k]=T9 at hck Hle hsm;have HT9:=hZ hT9;clear hT9;have e1:((k+1:Nat):Int)-1=(k:Int):=by omega
      rw[e1]
      go_wp2_with fail
      refine(qGp w5.heap.size w5.heap.size _ ⟨T9.toArray⟩ _ hisb.o (by rw[Lib.byteCells,List.length_map];exact hsm.o) (by omega)).mono ?_;rintro e w9 ⟨rfl,hat,hB9⟩;have HB9:=hZ (hbq.o.trans hB9);have Hat:Hid (Lib.IsBuilder 97 5 w5.heap.size w5.heap.size (Lib.byteCells (([45]:Tx)++(acc.drop k).reverse.flatten)) w9):=hZ (.inr (by
       have e9:Lib.strCells ⟨T9.toArray⟩=Lib.byteCells T9:=rfl;rw[e9]at hat;rw[List.drop_eq_getElem_cons (by omega:k<acc.length),List.reverse_cons,List.flatten_append,HT9.o];simpa[Lib.byteCells]using hat))
      clear hat hB9 hck
      go_wp2
      go_roundw
      case rel=>exact⟨k,rfl,by omega,Hat,HB9⟩
      case measure=>simp[qQV]
  ·have hrpos:0<(qAm W2 r).length:=List.length_pos_iff.2 (fun h=>hr0 ((qBB W2 r qAk).1 h))
   have hal2:acc.length<=548:=by
    have h3:=congrArg List.length hacc.o;rw[List.length_append,qEK,qEK,qBt P9 r qDM hr0,List.length_cons]at h3;have:=Hgl.o;omega
   have Hd:=hZ (qKZ _ r P9 wr hmr.o (by decide) (by decide) (by omega));have Hst:=hZ (qO2 r hr0);have hrem:r%P9<1000000000:=Nat.mod_lt _ (by decide);generalize hL:(qAm W2 r).length=L at *;have HL:=hZ hL;clear hL
   go_wp2_with fail
   refine Hd.o.mono ?_;rintro e w2 ⟨QL,qc,rfl,hm2,hB2⟩;have Hm2:=hZ hm2;obtain⟨hQL,q2⟩:QL=(qAm W2 (r/P9)).length/\QL<=qc/\qc<=9223372036854775807:=by
    obtain⟨_,_,hv,h4,h5,_⟩:=hm2;injection hv with _ e1 e2;exact⟨e1,by omega,by omega⟩
   have HQL:=hZ hQL.symm;have hgown:=hown.o.lt;have Hgown:=hZ hgown;clear hQL hm2 hgown;have HB2:=hZ hB2;have Hown2:=hZ (hown.o.kept ⟨hB2.os,hB2.tape,hB2.output,hB2.size,fun k hk _=>hB2.block k hk⟩ (row:=none) (by
    cases hb:(Value.slice ga acc.length gc).ownBlock with
    |none=>exact .inl rfl
    |some k=>exact .inr (by simp)))
   have z3:=hB2.size;have HT2:=hZ (HTr.o.below hB2 (by have:=HTr.o.lt;exact this));clear hB2 Hd
   go_wp2_with fail
   refine(qOY (r%P9) w2 (by omega) HT2.o).mono ?_;rintro e w3 ⟨rfl,hB3⟩;have Hown3:=hZ (Hown2.o.kept ⟨hB3.os,hB3.tape,hB3.output,hB3.size,fun k hk _=>hB3.block k hk⟩ (row:=none) (by
    cases hb:(Value.slice ga acc.length gc).ownBlock with
    |none=>exact .inl rfl
    |some k=>exact .inr (by simp)))
   have z4:=hB3.size;have HB3:=hZ ((hBr.o.trans (HB2.o.mono z2)).trans (hB3.mono (by omega)));have Hm3:=hZ (qAd.below Hm2.o (Nat.le_refl _) hB3);have hpd:=qMU 9 (r%P9) (by omega) hrem;have hdl:=hpd.2;have Hpd:=hZ hpd.1;clear hB3 hpd HB2 Hm2 Hown2;obtain⟨q,hq⟩:=eX (r/P9);have Hq:=hZ hq;rw[hq]at Hst Hm3 HQL;clear hq;by_cases hq0:q=0
   ·rw[if_pos hq0]at Hst
    obtain rfl:QL=0:=by rw[<-HQL.o,hq0];rfl
    obtain⟨D,hD⟩:=eX (dec (r%P9));rw[hD]at Hst hdl Hpd ⊢;clear hD hq0
    go_wp2_with (at_builtin;refine wpList_append_own _ rfl _ _ 58 rfl w1.heap.size 9 i0 _ 1 16 Tryz.underlying58 Hi.o Hz0.o Hz1.o Hz2.o rfl (by decide) _ _ _ rfl (Hown3.o.alloc _) ⟨w3.heap.size,0,none⟩ 1 1 [sv D] rfl rfl (cell_one_new _ _ _) (by simp[Value.oneCell',sv]) (by unfold maxLen;omega) (by omega) (by simp;omega) ?_)
    intro v5 w5 hown5 hgrow _;obtain⟨g5,cap5,hv5,_⟩:=hown5.form (by omega);subst hv5;have Hown5:Hid (w5.ownsRow w1.heap.size 9 1 (.slice (some ⟨g5,0,none⟩) (acc++[D]).length cap5) (acc++[D]).length ((acc++[D]).map sv)):=hZ (by rw[List.length_append,List.map_append];exact hown5);have HB5:=hZ ((HB3.o.alloc (by omega) (.cells #[sv D] 9)).grown hgrow (by simp;omega) (fun k e=>(Hown3.o.lt k e).1));have Hm5:=hZ (show qAK w5 (.slice (some ⟨wr.heap.size,0,none⟩) 0 qc) q from(qAd.below Hm3.o (Nat.le_refl _) ((Below.refl _ _).alloc (Nat.le_refl _) (.cells #[sv D] 9))).grown hgrow (fun b off cp hv=>by intro e;have h6:=Hgown.o b e.symm;injection hv with e1;injection e1 with e1;injection e1 with e1;omega));clear hown5 hgrow
    go_wp2
    go_roundw
    case rel=>exact⟨acc++[D],q,some ⟨g5,0,none⟩,cap5,some ⟨wr.heap.size,0,none⟩,qc,by simp,by rw[HQL.o],hZ (by rw[List.append_assoc];show acc++(D::gtl (qAm P9 q))=_;rw[<-hacc.o,Hst.o]),hZ (by rw[<-Hq.o];exact Nat.le_trans (Nat.div_le_self _ _) hrm.o),hZ (by rw[HQL.o];exact Hm5.o),Hown5,HB5⟩
    case measure=>simp[qSe];omega
   ·rw[if_neg hq0]at Hst
    have hlp:0<QL:=by rw[<-HQL.o];exact List.length_pos_iff.2 (fun h=>hq0 ((qBB W2 _ qAk).1 h))
    have Hrp:=hZ (fun w=>qLz ⟨#[48]⟩ (9-(dec (r%P9)).length) w (by omega) (by show 1*_<=_;omega));obtain⟨E,hE⟩:=eX (pad 9 (r%P9));have hEl:E.length=9:=by rw[<-hE];exact qJI _ _
    rw[hE]at Hst Hpd;clear hE;obtain⟨D,hD⟩:=eX (dec (r%P9));have hcast:(9:Int)-(D.length:Int)=((9-D.length:Nat):Int):=by rw[<-hD];omega
    rw[hD]at Hrp hdl Hpd ⊢;clear hD hq0
    go_wp2_with fail
    refine(Hrp.o w3).mono ?_;rintro e w4 ⟨rfl,hB4⟩;clear hcast;obtain⟨R,hR⟩:=eX (Lib.repeatL [48] (9-D.length));have hRl:R.length<=9:=by rw[<-hR,qFK,List.length_replicate];omega
    have hcat:(⟨R.toArray⟩:ByteArray)++⟨D.toArray⟩=⟨E.toArray⟩:=by
     rw[<-hR,qFK,qEU,<-Hpd.o]
    rw[hR];clear hR;have Hown4:=hZ (Hown3.o.kept ⟨hB4.os,hB4.tape,hB4.output,hB4.size,fun k hk _=>hB4.block k hk⟩ (row:=none) (by
     cases hb:(Value.slice ga acc.length gc).ownBlock with
     |none=>exact .inl rfl
     |some k=>exact .inr (by simp)))
    have z5:=hB4.size;have HB4:=hZ (HB3.o.trans (hB4.mono (by omega)));have Hm4:=hZ (qAd.below Hm3.o (Nat.le_refl _) hB4);clear hB4 Hown3 HB3 Hm3
    go_wp2_with (at_builtin;refine wpList_append_own _ rfl _ _ 58 rfl w1.heap.size 9 i0 _ 1 16 Tryz.underlying58 Hi.o Hz0.o Hz1.o Hz2.o rfl (by decide) _ _ _ rfl (Hown4.o.alloc _) ⟨w4.heap.size,0,none⟩ 1 1 [sv E] rfl rfl (cell_one_new _ _ _) (by simp[Value.oneCell',sv]) (by unfold maxLen;omega) (by omega) (by simp;omega) ?_)
    intro v5 w5 hown5 hgrow _;obtain⟨g5,cap5,hv5,_⟩:=hown5.form (by omega);subst hv5;have Hown5:Hid (w5.ownsRow w1.heap.size 9 1 (.slice (some ⟨g5,0,none⟩) (acc++[E]).length cap5) (acc++[E]).length ((acc++[E]).map sv)):=hZ (by rw[List.length_append,List.map_append];exact hown5);have HB5:=hZ ((HB4.o.alloc (by omega) (.cells #[sv E] 9)).grown hgrow (by simp;omega) (fun k e=>(Hown4.o.lt k e).1));have Hm5:=hZ (show qAK w5 (.slice (some ⟨wr.heap.size,0,none⟩) QL qc) q from(qAd.below Hm4.o (Nat.le_refl _) ((Below.refl _ _).alloc (Nat.le_refl _) (.cells #[sv E] 9))).grown hgrow (fun b off cp hv=>by intro e;have h6:=Hgown.o b e.symm;injection hv with e1;injection e1 with e1;injection e1 with e1;omega));clear hown5 hgrow
    go_wp2
    go_roundw
    case rel=>exact⟨acc++[E],q,some ⟨g5,0,none⟩,cap5,some ⟨wr.heap.size,0,none⟩,qc,by simp,by rw[HQL.o],hZ (by rw[List.append_assoc];show acc++(E::gtl (qAm P9 q))=_;rw[<-hacc.o,Hst.o]),hZ (by rw[<-Hq.o];exact Nat.le_trans (Nat.div_le_self _ _) hrm.o),hZ (by rw[HQL.o];exact Hm5.o),Hown5,HB5⟩
    case measure=>simp[qSe];omega
theorem qLq(v:Value)(z:Int)(w:World)(h:qAr w v z)(hz:z.natAbs<LIM)(hT:qC1 w):
 Calls Tryz.prog 64 #[v] w fun e w'=>e=.returned (sv (qRY z))/\Below w.heap.size w w':=by
 obtain⟨a,n,cap,rfl,hm⟩:=h.form;by_cases h0:z=0
 ·subst h0
  obtain⟨a',cap',hv,_,h2,_⟩:=hm;injection hv with e1 e2 e3;have e4:n=0:=by rw[e2,show(0:Int).natAbs=0 from rfl,qA3];rfl
  rw[e4];refine(qJz a cap (by omega) w _).mono ?_;rintro e w' ⟨rfl,hB⟩;exact⟨rfl,hB⟩
 ·refine(qLp (decide (z<0)) a n cap z.natAbs w hm hz (by omega) hT).mono ?_
  rintro e w' ⟨rfl,hB⟩;refine⟨?_,hB⟩;unfold qRY;by_cases hn:z<0
  ·rw[if_pos hn,decide_eq_true hn];rfl
  ·rw[if_neg hn,decide_eq_false hn];rfl
end Go.Proofs.YtkjhlkngihponaaGreatDoor
