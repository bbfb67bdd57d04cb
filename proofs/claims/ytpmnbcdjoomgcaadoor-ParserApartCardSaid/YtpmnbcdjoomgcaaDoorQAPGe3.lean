/- The reference's declarations. -/
import Derived.Test.YtpmnbcdjoomgcaaDoorQAPGe1
import Derived.Test.YtpmnbcdjoomgcaaDoorQAQSame
import Derived.Test.YtpmnbcdjoomgcaaDoorQAPPut
import Derived.Test.YtpmnbcdjoomgcaaDoorQAPChk2
import Derived.Deep.CutRange
import Derived.Deep.CutBlock
set_option linter.unusedVariables false
set_option linter.unusedSimpArgs false
set_option maxHeartbeats 4000000
set_option maxRecDepth 100000
namespace Go.Proofs.YtpmnbcdjoomgcaaDoor
open Go.RowKit
structure GX(W0 w wc:World)(b bd:Nat)(v:Value)(zs:List Int)(len j:Nat)(d:Dc)(y:Ls):Prop where
 g:GSt W0 wc b v zs len j
 q:QD wc bd d y
 r:QD wc w.heap.size (Dc.zero 0 [] 0) ls0
 k:qAg (fun k=>k=b) w wc
 lo:w.heap.size<bd
 hb:b<w.heap.size
section
variable {W0 w wc w':World}{b bd len j j':Nat}{v:Value}{zs:List Int}{d d':Dc}{y y':Ls}
theorem GX.call(h:GX W0 w wc b bd v zs len j d y)(hg:GSt W0 w' b v zs len j')(ho:qAg (fun k=>k=b) wc w'):GX W0 w w' b bd v zs len j' d y:=by
 have:=h.lo;have:=h.hb;exact⟨hg,(ho.block _ (qAq h.q) (by omega)).trans h.q,(ho.block _ (qAq h.r) (by omega)).trans h.r,h.k.trans ho,h.lo,h.hb⟩
theorem GX.size(h:GX W0 w wc b bd v zs len j d y):W0.heap.size<=w.heap.size:=by
 have:=h.g.lo;have:=h.hb;omega
theorem GX.below(h:GX W0 w wc b bd v zs len j d y)(hB:Below wc.heap.size wc w'):GX W0 w w' b bd v zs len j d y:=h.call (h.g.below hB) (qAg.of_below hB)
theorem GX.behind{B:Nat}(h:GX W0 w wc b bd v zs len j d y)(hB:Below B wc w')(hbd:bd<B):GX W0 w w' b bd v zs len j d y:=by
 have hlo:=h.lo;have hb:=h.hb;have hs:=h.size;exact⟨h.g.behind (B:=B) (by omega) (by omega) hB,(hB.block _ hbd).trans h.q,(hB.block _ (by omega)).trans h.r,h.k.behind (hB.mono (by omega)),hlo,hb⟩
theorem GX.put(h:GX W0 w wc b bd v zs len j d y)(k:Nat)(u:Value)(e1:(dcC d y).set k u=dcC d' y'):GX W0 w (wc.setCell ⟨bd,k,none⟩ u) b bd v zs len j d' y'/\KpX [34] wc (wc.setCell ⟨bd,k,none⟩ u):=by
 have hlo:=h.lo;have hb:=h.hb;have hs:=h.size;have hq:=h.q;have hB:Below w.heap.size wc (wc.setCell ⟨bd,k,none⟩ u):=(Below.refl _ _).setCell (p:=⟨bd,k,none⟩) (by show w.heap.size<=bd;omega) u;have hk:KpX [34] wc (wc.setCell ⟨bd,k,none⟩ u):=KpX.of_only ((qAg.refl (fun k=>k=bd) wc).set (p:=⟨bd,k,none⟩) rfl u) (fun j hj e cs hh=>by
  subst hj;unfold QD at hq;rw[hq]at hh;injection hh with hh;injection hh with _ hh;rw[<-hh];simp)
 refine⟨⟨h.g.behind hb hs hB,?_,?_,h.k.behind hB,hlo,hb⟩,hk⟩
 ·unfold QD at hq ⊢
  simp[World.setCell,Array.getElem?_modify,hq,<-e1]
 ·have hr:=h.r
  unfold QD at hr ⊢;have hne:¬bd=w.heap.size:=by omega
  simp[World.setCell,Array.getElem?_modify,hr,hne]
end
structure GD(W0 w wc:World)(b bd:Nat)(v:Value)(zs:List Int)(len j:Nat)(d:Dc)(y:Ls):Prop where
 g:GSt W0 wc b v zs len j
 q:QD wc bd d y
 l:LRef wc d y
 r:QD wc w.heap.size (Dc.zero 0 [] 0) ls0
 k:qAg (fun k=>k=b) w wc
 lo:w.heap.size<bd
 hb:b<w.heap.size
theorem qE6{w':World}{g:Nat}(L:List Int)(hcl:∀k,w'.cell? ⟨g,k,none⟩=(L.map fun x=>Value.int .i64 x)[k]?)(x:Int)(h0:0<=x)(h1:x<(L.length:Nat)):w'.cell? ⟨g,x.toNat,none⟩=some (.int .i64 (L.getD x.toNat 0)):=by
 have:x.toNat<L.length:=by omega
 rw[hcl,List.getElem?_map,List.getElem?_eq_getElem this,List.getD_eq_getElem?_getD,List.getElem?_eq_getElem this];rfl
theorem qH8{e:TypeId}{w:World}{a:Option Addr}{c:Nat}{l:List Pr}(h:qAD e w (.slice a l.length c) l):(l.flatMap prC).length=l.length*3/\(∀ad,a=some ad->∀j u,(l.flatMap prC)[j]? =some u->w.cell? (ad.add j)=some u)/\(0<l.length->∃ad,a=some ad)/\∀u∈l.flatMap prC,u.oneCell'=true:=by
 have hlen:∀l:List Pr,(l.flatMap prC).length=l.length*3:=fun l=>by
  induction l with
  |nil=>rfl
  |cons x l ih=>rw[List.flatMap_cons,List.length_append,ih,List.length_cons];simp[prC];omega
 refine⟨hlen l,fun ad he j u hu=> ?_,fun h0=> ?_,fun u hu=> ?_⟩
 ·have hne:l≠[]:=by rintro rfl;simp at hu
  obtain⟨ad',e1, -,h3⟩:=TSl.flat h (fun _=>rfl) (by omega) hne;rw[e1]at he;injection he with he;rw[<-he];exact h3 j u hu
 ·obtain⟨ad',e1, -,-⟩:=TSl.flat h (fun _=>rfl) (by omega) (by rintro rfl;simp at h0)
  exact⟨ad',e1⟩
 ·obtain⟨x, -,hx⟩:=List.mem_flatMap.1 hu
  simp[prC]at hx;rcases hx with rfl|rfl|rfl<;>rfl
theorem qBd{p:Pk}(h:qG6 p)(i:Nat):qBm p i<=i+7:=by
 have:=h i 4 (by omega);unfold qBm qIA;omega
section
variable {W0 w wc w':World}{b bd len j j':Nat}{v:Value}{zs:List Int}{d d':Dc}{y y':Ls}
theorem GD.call(h:GD W0 w wc b bd v zs len j d y)(hg:GSt W0 w' b v zs len j')(ho:qAg (fun k=>k=b) wc w'):GD W0 w w' b bd v zs len j' d y:=by
 have hk:=h.g.kpx ho;have:=h.lo;have:=h.hb;exact⟨hg,(ho.block _ (qAq h.q) (by omega)).trans h.q,h.l.kp hk (by decide) (by decide) (by decide),(ho.block _ (qAq h.r) (by omega)).trans h.r,h.k.trans ho,h.lo,h.hb⟩
theorem GD.x(h:GD W0 w wc b bd v zs len j d y):GX W0 w wc b bd v zs len j d y:=⟨h.g,h.q,h.r,h.k,h.lo,h.hb⟩
theorem GX.gd(h:GX W0 w wc b bd v zs len j d y)(hl:LRef wc d y):GD W0 w wc b bd v zs len j d y:=⟨h.g,h.q,hl,h.r,h.k,h.lo,h.hb⟩
theorem GD.size(h:GD W0 w wc b bd v zs len j d y):W0.heap.size<=w.heap.size:=by
 have:=h.g.lo;have:=h.hb;omega
theorem GD.put(h:GD W0 w wc b bd v zs len j d y)(k:Nat)(u:Value)(e1:(dcC d y).set k u=dcC d' y')(hl:LRef wc d' y'):GD W0 w (wc.setCell ⟨bd,k,none⟩ u) b bd v zs len j d' y':=by
 have hlo:=h.lo;have hb:=h.hb;have hs:=h.size;have hq:=h.q;have hB:Below w.heap.size wc (wc.setCell ⟨bd,k,none⟩ u):=(Below.refl _ _).setCell (p:=⟨bd,k,none⟩) (by show w.heap.size<=bd;omega) u;have hk:KpX [34] wc (wc.setCell ⟨bd,k,none⟩ u):=KpX.of_only ((qAg.refl (fun k=>k=bd) wc).set (p:=⟨bd,k,none⟩) rfl u) (fun j hj e cs hh=>by
  subst hj;unfold QD at hq;rw[hq]at hh;injection hh with hh;injection hh with _ hh;rw[<-hh];simp)
 refine⟨h.g.behind hb hs hB,?_,hl.kp hk (by decide) (by decide) (by decide),?_,h.k.behind hB,hlo,hb⟩
 ·unfold QD at hq ⊢
  simp[World.setCell,Array.getElem?_modify,hq,<-e1]
 ·have hr:=h.r
  unfold QD at hr ⊢;have hne:¬bd=w.heap.size:=by omega
  simp[World.setCell,Array.getElem?_modify,hr,hne]
end
theorem qIB(W0 w:World)(b:Nat)(v:Value)(zs:List Int)(len i:Nat)(h:GSt W0 w b v zs len i)(hi:i<=80000):
 Calls Tryd.prog 28 #[.pointer (some ⟨b,0,none⟩)] w fun e w'=>(∃y,e=.returned (.agg (dcC (qBi (pkN zs len) i) y).toArray)/\LRef w' (qBi (pkN zs len) i) y)/\GSt W0 w' b v zs len (qBh (pkN zs len) i)/\qAg (fun k=>k=b) w w':=by
 have hb:=h.lt;have hs:=h.size;obtain⟨wa,hwa⟩:=eX (w.alloc (.cells #[Value.int IntKind.i64 0,Value.string { data:=#[] },Value.int IntKind.i64 0,Value.bool false,Value.bool false,Value.bool false,Value.int IntKind.i64 0,Value.int IntKind.i64 0,Value.int IntKind.i64 0,Value.int IntKind.i64 0,Value.int IntKind.i64 0,Value.int IntKind.i64 0,Value.slice none 0 0,Value.slice none 0 0,Value.slice none 0 0,Value.slice none 0 0,Value.slice none 0 0] 34));have hBa:Below w.heap.size w wa:=by rw[<-hwa];exact aR
 have hra:QD wa w.heap.size (Dc.zero 0 [] 0) ls0:=by rw[<-hwa];exact heap_alloc_new w _
 have HC1:=hZ (qAk W0 wa b v zs len i 5 (h.below hBa) (by omega) (by omega) (by omega));have Hra:=hZ hra;have HBa:=hZ hBa;have hp1:=qAw zs len i 5 (by omega);obtain⟨kk,hkk⟩:=eX (pkN zs len i 5);rw[hkk]at hp1 HC1;have Hkk:=hZ hkk;obtain⟨nm,hnm⟩:=eX (qDC (pkN zs len) (i+1));have Hnm:=hZ hnm;clear hkk hnm h hBa hra
 go_enter Tryd.func28,Tryd.ntmps28
 go_wp2_with fail
 clear hwa;refine HC1.o.mono ?_;rintro e w1 ⟨rfl,hg1,ho1⟩;have HC2:=hZ (qFO W0 w1 b v zs len (i+1) hg1 (by omega));rw[Hnm.o]at HC2;have HO1:=hZ ho1;clear hg1 ho1 HC1
 go_wp2_with fail
 refine HC2.o.mono ?_;rintro e w2 ⟨rfl,hg2,ho2⟩;have hwa2:=HO1.o.trans ho2;have hr2:QD w2 w.heap.size (Dc.zero 0 [] 0) ls0:=(hwa2.block _ (qAq Hra.o) (by omega)).trans Hra.o;have ho3:qAg (fun k=>k=b) w w2:=(qAg.of_below HBa.o).trans hwa2;obtain⟨bd,hbd⟩:=eX w2.heap.size;have hlo:w.heap.size<bd:=by have:=qAq hr2;omega
 have hs2:qAy (w2.alloc (.cells #[Value.int IntKind.i64 0,Value.string { data:=#[] },Value.int IntKind.i64 0,Value.bool false,Value.bool false,Value.bool false,Value.int IntKind.i64 0,Value.int IntKind.i64 0,Value.int IntKind.i64 0,Value.int IntKind.i64 0,Value.int IntKind.i64 0,Value.int IntKind.i64 0,Value.slice none 0 0,Value.slice none 0 0,Value.slice none 0 0,Value.slice none 0 0,Value.slice none 0 0] 34)) bd 34 [Value.int IntKind.i64 0,Value.string { data:=#[] },Value.int IntKind.i64 0,Value.bool false,Value.bool false,Value.bool false,Value.int IntKind.i64 0,Value.int IntKind.i64 0,Value.int IntKind.i64 0,Value.int IntKind.i64 0,Value.int IntKind.i64 0,Value.int IntKind.i64 0,Value.slice none 0 0,Value.slice none 0 0,Value.slice none 0 0,Value.slice none 0 0,Value.slice none 0 0]:=by rw[<-hbd];exact qAy.new _ _ _
 obtain⟨w3,hw3⟩:=eX ((w2.alloc (.cells #[Value.int IntKind.i64 0,Value.string { data:=#[] },Value.int IntKind.i64 0,Value.bool false,Value.bool false,Value.bool false,Value.int IntKind.i64 0,Value.int IntKind.i64 0,Value.int IntKind.i64 0,Value.int IntKind.i64 0,Value.int IntKind.i64 0,Value.int IntKind.i64 0,Value.slice none 0 0,Value.slice none 0 0,Value.slice none 0 0,Value.slice none 0 0,Value.slice none 0 0] 34)).setRow bd (dcC (Dc.zero kk nm 0) ls0).toArray);have hE3:qAy w3 bd 34 (dcC (Dc.zero kk nm 0) ls0):=by rw[<-hw3];exact setRow_heap _ _ _ _ _ _ hs2
 have hB3:Below w2.heap.size w2 w3:=by rw[<-hw3];exact below_setRow (qAa _ _) (by omega) _
 have HD0:Hid (GD W0 w w3 b bd v zs len (i+2) (Dc.zero kk nm 0) ls0):=hZ ⟨hg2.below hB3,hE3,qIl _ _ rfl rfl rfl rfl rfl,(hB3.block _ (qAq hr2)).trans hr2,ho3.trans (qAg.of_below hB3),hlo,hb⟩;have hi1:(Tryd.prog.info? 34).map (·.size)=some (dcC (Dc.zero kk nm 0) ls0).toArray.size:=by kernel_rfl
 have hon:(dcC (Dc.zero kk nm 0) ls0).toArray.all (·.oneCell')=true:=by simp[dcC,Value.oneCell',Dc.zero,ls0]
 have hz1:(dcC (Dc.zero kk nm 0) ls0).toArray.size=17:=rfl;have c0:w3.cell? ⟨bd,0,none⟩=some (.int .i64 kk):=hE3.cell 0;clear hg2 ho2 hwa2 hr2 ho3 hE3 hB3 HC2 HO1 Hra HBa
 go_upto_block 0 with (refine wpList_store_row rfl _ _ _ rfl bd (dcC (Dc.zero kk nm 0) ls0).toArray rfl rfl _ _ hs2 hi1 hz1.symm hon ?_;rw[hw3])
 clear hs2 hw3 hi1 hon hz1 c0 hbd
 go_cut []from 4 (fun wc=>∃y,Hid (GD W0 w wc b bd v zs len (qBh (pkN zs len) i) (qBi (pkN zs len) i) y))
 case first=>
  obtain hk0|hk0|hk0|hk0:kk=0\/(kk=1\/kk=2)\/kk=3\/kk=4:=by omega
  ·have q0:(kk==0)=true:=by simp[hk0]
   have HX:Hid (qBi (pkN zs len) i=qC6 (pkN zs len) i (Dc.zero kk nm 0)):=hZ (by unfold qBi;rw[Hkk.o,Hnm.o];exact if_pos hk0);have HJ:Hid (qBh (pkN zs len) i=i+8):=hZ (by unfold qBh;rw[Hkk.o];exact if_pos hk0);clear hk0
   go_wp2_with fail
   refine(qAk W0 _ b v zs len (i+2) 2 HD0.o.g (by omega) (by omega) (by omega)).mono ?_;rintro e u0 ⟨rfl,hg,ho⟩;have HE0:=hZ (HD0.o.call hg ho);obtain⟨x0,hx0⟩:=eX (pkN zs len (i+2) 2);have hr0:=qAw zs len (i+2) 2 (by omega);rw[hx0]at hr0 ⊢;have Hx0:=hZ hx0;obtain⟨hr0a,hr0b⟩:=hr0;clear hg ho HD0 hx0;have c0:u0.cell? ⟨bd,3,none⟩=some (.bool false):=HE0.o.q.cell 3;have f0:=HE0.o.q.frozen 3;obtain⟨v0,hv0⟩:=eX (u0.setCell ⟨bd,3,none⟩ (.bool (x0==0)));have HD1:Hid (GD W0 w v0 b bd v zs len (i+3) { Dc.zero kk nm 0 with object:=x0==0 } ls0):=hZ (hv0▸HE0.o.put 3 (.bool (x0==0)) rfl (HE0.o.l.same rfl rfl rfl rfl rfl))
   go_wp2_with fail
   clear c0 f0 hv0 HE0;refine(qAk W0 _ b v zs len (i+3) 3 HD1.o.g (by omega) (by omega) (by omega)).mono ?_;rintro e u1 ⟨rfl,hg,ho⟩;have HE1:=hZ (HD1.o.call hg ho);obtain⟨x1,hx1⟩:=eX (pkN zs len (i+3) 3);have hr1:=qAw zs len (i+3) 3 (by omega);rw[hx1]at hr1 ⊢;have Hx1:=hZ hx1;obtain⟨hr1a,hr1b⟩:=hr1;clear hg ho HD1 hx1;have c1:u1.cell? ⟨bd,4,none⟩=some (.bool false):=HE1.o.q.cell 4;have f1:=HE1.o.q.frozen 4;obtain⟨v1,hv1⟩:=eX (u1.setCell ⟨bd,4,none⟩ (.bool (x1==0)));have HD2:Hid (GD W0 w v1 b bd v zs len (i+4) { Dc.zero kk nm 0 with object:=x0==0,mixed:=x1==0 } ls0):=hZ (hv1▸HE1.o.put 4 (.bool (x1==0)) rfl (HE1.o.l.same rfl rfl rfl rfl rfl))
   go_wp2_with fail
   clear c1 f1 hv1 HE1;refine(qAk W0 _ b v zs len (i+4) 3 HD2.o.g (by omega) (by omega) (by omega)).mono ?_;rintro e u2 ⟨rfl,hg,ho⟩;have HE2:=hZ (HD2.o.call hg ho);obtain⟨x2,hx2⟩:=eX (pkN zs len (i+4) 3);have hr2:=qAw zs len (i+4) 3 (by omega);rw[hx2]at hr2 ⊢;have Hx2:=hZ hx2;obtain⟨hr2a,hr2b⟩:=hr2;clear hg ho HD2 hx2;have c2:u2.cell? ⟨bd,5,none⟩=some (.bool false):=HE2.o.q.cell 5;have f2:=HE2.o.q.frozen 5;obtain⟨v2,hv2⟩:=eX (u2.setCell ⟨bd,5,none⟩ (.bool (x2==0)));have HD3:Hid (GD W0 w v2 b bd v zs len (i+5) { Dc.zero kk nm 0 with object:=x0==0,mixed:=x1==0,coin:=x2==0 } ls0):=hZ (hv2▸HE2.o.put 5 (.bool (x2==0)) rfl (HE2.o.l.same rfl rfl rfl rfl rfl));obtain⟨W,hW⟩:=eX (v2.alloc (.cells #[.int .i64 0,.int .i64 5,.int .i64 1000] 3));have hB:Below v2.heap.size v2 W:=by rw[<-hW];exact aR
   have hcl2:∀w',qAg (fun j=>j=b) W w'->∀k,w'.cell? ⟨v2.heap.size,k,none⟩=(([0,5,1000]:List Int).map fun x=>Value.int .i64 x)[k]? :=fun w' ho k=>by
    rw[<-hW]at ho;exact qB2 (L:=([0,5,1000]:List Int).map fun x=>Value.int .i64 x) ho HD3.o.g.lt
   have Hcl:=hZ hcl2;replace HD3:=hZ (HD3.o.call (HD3.o.g.below hB) (qAg.of_below hB));clear hB hcl2
   go_wp2_with fail
   clear c2 f2 hv2 HE2 hW;refine(qAk W0 _ b v zs len (i+5) 3 HD3.o.g (by omega) (by omega) (by omega)).mono ?_;rintro e u3 ⟨rfl,hg,ho⟩;have HE3:=hZ (HD3.o.call hg ho);obtain⟨x3,hx3⟩:=eX (pkN zs len (i+5) 3);have hr3:=qAw zs len (i+5) 3 (by omega);rw[hx3]at hr3 ⊢;have Hx3:=hZ hx3;obtain⟨hr3a,hr3b⟩:=hr3;have hcl:=Hcl.o u3 ho;have hcx:=qE6 [0,5,1000] hcl x3 hr3a hr3b;obtain⟨nn3,hnn3⟩:=eX (([0,5,1000]:List Int).getD x3.toNat 0);rw[hnn3]at hcx;have Hn3:=hZ hnn3;clear hcl Hcl hnn3;clear hg ho HD3 hx3;have c3:u3.cell? ⟨bd,6,none⟩=some (.int .i64 0):=HE3.o.q.cell 6;have f3:=HE3.o.q.frozen 6;obtain⟨v3,hv3⟩:=eX (u3.setCell ⟨bd,6,none⟩ (.int .i64 nn3));have HD4:Hid (GD W0 w v3 b bd v zs len (i+6) { Dc.zero kk nm 0 with object:=x0==0,mixed:=x1==0,coin:=x2==0,wear:=nn3 } ls0):=hZ (hv3▸HE3.o.put 6 (.int .i64 nn3) rfl (HE3.o.l.same rfl rfl rfl rfl rfl))
   go_wp2_with fail
   clear c3 f3 hv3 HE3 hcx;refine(qAk W0 _ b v zs len (i+6) 3 HD4.o.g (by omega) (by omega) (by omega)).mono ?_;rintro e u4 ⟨rfl,hg,ho⟩;have HE4:=hZ (HD4.o.call hg ho);obtain⟨x4,hx4⟩:=eX (pkN zs len (i+6) 3);have hr4:=qAw zs len (i+6) 3 (by omega);rw[hx4]at hr4 ⊢;have Hx4:=hZ hx4;obtain⟨hr4a,hr4b⟩:=hr4;clear hg ho HD4 hx4;have c4:u4.cell? ⟨bd,7,none⟩=some (.int .i64 0):=HE4.o.q.cell 7;have f4:=HE4.o.q.frozen 7;obtain⟨v4,hv4⟩:=eX (u4.setCell ⟨bd,7,none⟩ (.int .i64 x4));have HD5:Hid (GD W0 w v4 b bd v zs len (i+7) { Dc.zero kk nm 0 with bind:=x4,object:=x0==0,mixed:=x1==0,coin:=x2==0,wear:=nn3 } ls0):=hZ (hv4▸HE4.o.put 7 (.int .i64 x4) rfl (HE4.o.l.same rfl rfl rfl rfl rfl))
   go_wp2_with fail
   clear c4 f4 hv4 HE4;refine(qAk W0 _ b v zs len (i+7) 3 HD5.o.g (by omega) (by omega) (by omega)).mono ?_;rintro e u5 ⟨rfl,hg,ho⟩;have HE5:=hZ (HD5.o.call hg ho);obtain⟨x5,hx5⟩:=eX (pkN zs len (i+7) 3);have hr5:=qAw zs len (i+7) 3 (by omega);rw[hx5]at hr5 ⊢;have Hx5:=hZ hx5;obtain⟨hr5a,hr5b⟩:=hr5;clear hg ho HD5 hx5;have c5:u5.cell? ⟨bd,8,none⟩=some (.int .i64 0):=HE5.o.q.cell 8;have f5:=HE5.o.q.frozen 8;obtain⟨v5,hv5⟩:=eX (u5.setCell ⟨bd,8,none⟩ (.int .i64 x5));have HD6:Hid (GD W0 w v5 b bd v zs len (i+8) { Dc.zero kk nm 0 with bind:=x4,level:=x5,object:=x0==0,mixed:=x1==0,coin:=x2==0,wear:=nn3 } ls0):=hZ (hv5▸HE5.o.put 8 (.int .i64 x5) rfl (HE5.o.l.same rfl rfl rfl rfl rfl))
   go_wp2_with fail
   clear c5 f5 hv5 HE5
   go_meet
   case rel=>
    refine⟨ls0,?_⟩;rw[HJ.o,HX.o];unfold qC6;rw[Hx0.o,Hx1.o,Hx2.o,Hx3.o,Hn3.o,Hx4.o,Hx5.o];exact HD6
  ·have q0:(kk==0)=false:=by simp;omega
   have HX:Hid (qBi (pkN zs len) i=qCa (pkN zs len) i (Dc.zero kk nm 0)):=hZ (by unfold qBi;rw[Hkk.o,Hnm.o];simp only[];rw[if_neg (by omega),if_pos (by omega)]);have HJ:Hid (qBh (pkN zs len) i=qBm (pkN zs len) (qBm (pkN zs len) (qBm (pkN zs len) (i+6)))):=hZ (by unfold qBh;rw[Hkk.o];rw[if_neg (by omega),if_pos (by omega)]);have q1:(kk==1)=true\/(kk==1)=false/\(kk==2)=true:=by rcases hk0 with rfl|rfl<;>simp
   clear hk0;rcases q1 with q1|⟨q1,q2⟩
   ·skip
    go_wp2_with fail
    refine(qAk W0 _ b v zs len (i+2) 3 HD0.o.g (by omega) (by omega) (by omega)).mono ?_;rintro e u0 ⟨rfl,hg,ho⟩;have HE0:=hZ (HD0.o.call hg ho);obtain⟨x0,hx0⟩:=eX (pkN zs len (i+2) 3);have hr0:=qAw zs len (i+2) 3 (by omega);rw[hx0]at hr0 ⊢;have Hx0:=hZ hx0;obtain⟨hr0a,hr0b⟩:=hr0;clear hg ho HD0 hx0;have c0:u0.cell? ⟨bd,8,none⟩=some (.int .i64 0):=HE0.o.q.cell 8;have f0:=HE0.o.q.frozen 8;obtain⟨v0,hv0⟩:=eX (u0.setCell ⟨bd,8,none⟩ (.int .i64 x0));have HD1:Hid (GD W0 w v0 b bd v zs len (i+3) { Dc.zero kk nm 0 with level:=x0 } ls0):=hZ (hv0▸HE0.o.put 8 (.int .i64 x0) rfl (HE0.o.l.same rfl rfl rfl rfl rfl));obtain⟨W,hW⟩:=eX (v0.alloc (.cells #[.int .i64 0,.int .i64 7] 3));have hB:Below v0.heap.size v0 W:=by rw[<-hW];exact aR
    have hcl2:∀w',qAg (fun j=>j=b) W w'->∀k,w'.cell? ⟨v0.heap.size,k,none⟩=(([0,7]:List Int).map fun x=>Value.int .i64 x)[k]? :=fun w' ho k=>by
     rw[<-hW]at ho;exact qB2 (L:=([0,7]:List Int).map fun x=>Value.int .i64 x) ho HD1.o.g.lt
    have Hcl:=hZ hcl2;replace HD1:=hZ (HD1.o.call (HD1.o.g.below hB) (qAg.of_below hB));clear hB hcl2
    go_wp2_with fail
    clear c0 f0 hv0 HE0 hW;refine(qAk W0 _ b v zs len (i+3) 2 HD1.o.g (by omega) (by omega) (by omega)).mono ?_;rintro e u1 ⟨rfl,hg,ho⟩;have HE1:=hZ (HD1.o.call hg ho);obtain⟨x1,hx1⟩:=eX (pkN zs len (i+3) 2);have hr1:=qAw zs len (i+3) 2 (by omega);rw[hx1]at hr1 ⊢;have Hx1:=hZ hx1;obtain⟨hr1a,hr1b⟩:=hr1;have hcl:=Hcl.o u1 ho;have hcx:=qE6 [0,7] hcl x1 hr1a hr1b;obtain⟨nn1,hnn1⟩:=eX (([0,7]:List Int).getD x1.toNat 0);rw[hnn1]at hcx;have Hn1:=hZ hnn1;clear hcl Hcl hnn1;clear hg ho HD1 hx1;have c1:u1.cell? ⟨bd,9,none⟩=some (.int .i64 0):=HE1.o.q.cell 9;have f1:=HE1.o.q.frozen 9;obtain⟨v1,hv1⟩:=eX (u1.setCell ⟨bd,9,none⟩ (.int .i64 nn1));have HD2:Hid (GD W0 w v1 b bd v zs len (i+4) { Dc.zero kk nm 0 with level:=x0,time:=nn1 } ls0):=hZ (hv1▸HE1.o.put 9 (.int .i64 nn1) rfl (HE1.o.l.same rfl rfl rfl rfl rfl))
    go_wp2_with fail
    clear c1 f1 hv1 HE1 hcx;refine(qAk W0 _ b v zs len (i+4) 3 HD2.o.g (by omega) (by omega) (by omega)).mono ?_;rintro e u2 ⟨rfl,hg,ho⟩;have HE2:=hZ (HD2.o.call hg ho);obtain⟨x2,hx2⟩:=eX (pkN zs len (i+4) 3);have hr2:=qAw zs len (i+4) 3 (by omega);rw[hx2]at hr2 ⊢;have Hx2:=hZ hx2;obtain⟨hr2a,hr2b⟩:=hr2;clear hg ho HD2 hx2;have c2:u2.cell? ⟨bd,10,none⟩=some (.int .i64 0):=HE2.o.q.cell 10;have f2:=HE2.o.q.frozen 10;obtain⟨v2,hv2⟩:=eX (u2.setCell ⟨bd,10,none⟩ (.int .i64 x2));have HD3:Hid (GD W0 w v2 b bd v zs len (i+5) { Dc.zero kk nm 0 with level:=x0,time:=nn1,chance:=x2 } ls0):=hZ (hv2▸HE2.o.put 10 (.int .i64 x2) rfl (HE2.o.l.same rfl rfl rfl rfl rfl))
    go_wp2_with fail
    clear c2 f2 hv2 HE2;refine(qAk W0 _ b v zs len (i+5) 12 HD3.o.g (by omega) (by omega) (by omega)).mono ?_;rintro e u3 ⟨rfl,hg,ho⟩;have HE3:=hZ (HD3.o.call hg ho);obtain⟨x3,hx3⟩:=eX (pkN zs len (i+5) 12);have hr3:=qAw zs len (i+5) 12 (by omega);rw[hx3]at hr3 ⊢;have Hx3:=hZ hx3;obtain⟨hr3a,hr3b⟩:=hr3;clear hg ho HD3 hx3;have c3:u3.cell? ⟨bd,11,none⟩=some (.int .i64 0):=HE3.o.q.cell 11;have f3:=HE3.o.q.frozen 11;obtain⟨v3,hv3⟩:=eX (u3.setCell ⟨bd,11,none⟩ (.int .i64 x3));have HD4:Hid (GD W0 w v3 b bd v zs len (i+6) { Dc.zero kk nm 0 with level:=x0,time:=nn1,chance:=x2,of_:=x3 } ls0):=hZ (hv3▸HE3.o.put 11 (.int .i64 x3) rfl (HE3.o.l.same rfl rfl rfl rfl rfl))
    go_wp2_with fail
    clear c3 f3 hv3 HE3;refine(qBD W0 _ b v zs len (i+6) HD4.o.g (by omega)).mono ?_;rintro e u4 ⟨⟨s4,rfl,hp⟩,hg,ho⟩;obtain⟨l4,hl4⟩:=eX (qBC (pkN zs len) (i+6));have hje:=qBd (qAw zs len) (i+6);obtain⟨j4,hj4⟩:=eX (qBm (pkN zs len) (i+6));rw[hl4]at hp;rw[hj4]at hg hje;obtain⟨a4,b4,rfl, -,-⟩:=TSl.form hp;have HE4:=hZ (HD4.o.call hg ho);have Hl4:=hZ hl4;have Hj4:=hZ hj4;have c4:u4.cell? ⟨bd,12,none⟩=some (.slice none 0 0):=HE4.o.q.cell 12;have f4:=HE4.o.q.frozen 12;obtain⟨v4,hv4⟩:=eX (u4.setCell ⟨bd,12,none⟩ (.slice a4 l4.length b4));have HD5:Hid (GD W0 w v4 b bd v zs len j4 { Dc.zero kk nm 0 with level:=x0,time:=nn1,chance:=x2,of_:=x3,take:=l4 } ⟨.slice a4 l4.length b4,.slice none 0 0,.slice none 0 0,.slice none 0 0,.slice none 0 0⟩):=hZ (hv4▸HE4.o.put 12 (.slice a4 l4.length b4) rfl ⟨hp,HE4.o.l.g,HE4.o.l.b,HE4.o.l.r,HE4.o.l.x⟩);clear hp hg ho hl4 hj4 HD4
    go_wp2_with fail
    clear c4 f4 hv4 HE4;refine(qBD W0 _ b v zs len (j4) HD5.o.g (by omega)).mono ?_;rintro e u5 ⟨⟨s5,rfl,hp⟩,hg,ho⟩;obtain⟨l5,hl5⟩:=eX (qBC (pkN zs len) (j4));have hje:=qBd (qAw zs len) (j4);obtain⟨j5,hj5⟩:=eX (qBm (pkN zs len) (j4));rw[hl5]at hp;rw[hj5]at hg hje;obtain⟨a5,b5,rfl, -,-⟩:=TSl.form hp;have HE5:=hZ (HD5.o.call hg ho);have Hl5:=hZ hl5;have Hj5:=hZ hj5;have c5:u5.cell? ⟨bd,13,none⟩=some (.slice none 0 0):=HE5.o.q.cell 13;have f5:=HE5.o.q.frozen 13;obtain⟨v5,hv5⟩:=eX (u5.setCell ⟨bd,13,none⟩ (.slice a5 l5.length b5));have HD6:Hid (GD W0 w v5 b bd v zs len j5 { Dc.zero kk nm 0 with level:=x0,time:=nn1,chance:=x2,of_:=x3,take:=l4,give:=l5 } ⟨.slice a4 l4.length b4,.slice a5 l5.length b5,.slice none 0 0,.slice none 0 0,.slice none 0 0⟩):=hZ (hv5▸HE5.o.put 13 (.slice a5 l5.length b5) rfl ⟨HE5.o.l.t,hp,HE5.o.l.b,HE5.o.l.r,HE5.o.l.x⟩);clear hp hg ho hl5 hj5 HD5
    go_wp2_with fail
    clear c5 f5 hv5 HE5;refine(qBD W0 _ b v zs len (j5) HD6.o.g (by omega)).mono ?_;rintro e u6 ⟨⟨s6,rfl,hp⟩,hg,ho⟩;obtain⟨l6,hl6⟩:=eX (qBC (pkN zs len) (j5));have hje:=qBd (qAw zs len) (j5);obtain⟨j6,hj6⟩:=eX (qBm (pkN zs len) (j5));rw[hl6]at hp;rw[hj6]at hg hje;obtain⟨a6,b6,rfl, -,-⟩:=TSl.form hp;have HE6:=hZ (HD6.o.call hg ho);have Hl6:=hZ hl6;have Hj6:=hZ hj6;have c6:u6.cell? ⟨bd,14,none⟩=some (.slice none 0 0):=HE6.o.q.cell 14;have f6:=HE6.o.q.frozen 14;obtain⟨v6,hv6⟩:=eX (u6.setCell ⟨bd,14,none⟩ (.slice a6 l6.length b6));have HD7:Hid (GD W0 w v6 b bd v zs len j6 { Dc.zero kk nm 0 with level:=x0,time:=nn1,chance:=x2,of_:=x3,take:=l4,give:=l5,back:=l6 } ⟨.slice a4 l4.length b4,.slice a5 l5.length b5,.slice a6 l6.length b6,.slice none 0 0,.slice none 0 0⟩):=hZ (hv6▸HE6.o.put 14 (.slice a6 l6.length b6) rfl ⟨HE6.o.l.t,HE6.o.l.g,hp,HE6.o.l.r,HE6.o.l.x⟩);clear hp hg ho hl6 hj6 HD6
    go_wp2_with fail
    clear c6 f6 hv6 HE6
    go_meet
    case rel=>
     refine⟨⟨.slice a4 l4.length b4,.slice a5 l5.length b5,.slice a6 l6.length b6,.slice none 0 0,.slice none 0 0⟩,?_⟩;rw[HJ.o,HX.o];unfold qCa;rw[Hj4.o,Hj5.o,Hj6.o,Hx0.o,Hx1.o,Hn1.o,Hx2.o,Hx3.o,Hl4.o,Hl5.o,Hl6.o];exact HD7
   ·skip
    go_wp2_with fail
    refine(qAk W0 _ b v zs len (i+2) 3 HD0.o.g (by omega) (by omega) (by omega)).mono ?_;rintro e u0 ⟨rfl,hg,ho⟩;have HE0:=hZ (HD0.o.call hg ho);obtain⟨x0,hx0⟩:=eX (pkN zs len (i+2) 3);have hr0:=qAw zs len (i+2) 3 (by omega);rw[hx0]at hr0 ⊢;have Hx0:=hZ hx0;obtain⟨hr0a,hr0b⟩:=hr0;clear hg ho HD0 hx0;have c0:u0.cell? ⟨bd,8,none⟩=some (.int .i64 0):=HE0.o.q.cell 8;have f0:=HE0.o.q.frozen 8;obtain⟨v0,hv0⟩:=eX (u0.setCell ⟨bd,8,none⟩ (.int .i64 x0));have HD1:Hid (GD W0 w v0 b bd v zs len (i+3) { Dc.zero kk nm 0 with level:=x0 } ls0):=hZ (hv0▸HE0.o.put 8 (.int .i64 x0) rfl (HE0.o.l.same rfl rfl rfl rfl rfl));obtain⟨W,hW⟩:=eX (v0.alloc (.cells #[.int .i64 0,.int .i64 7] 3));have hB:Below v0.heap.size v0 W:=by rw[<-hW];exact aR
    have hcl2:∀w',qAg (fun j=>j=b) W w'->∀k,w'.cell? ⟨v0.heap.size,k,none⟩=(([0,7]:List Int).map fun x=>Value.int .i64 x)[k]? :=fun w' ho k=>by
     rw[<-hW]at ho;exact qB2 (L:=([0,7]:List Int).map fun x=>Value.int .i64 x) ho HD1.o.g.lt
    have Hcl:=hZ hcl2;replace HD1:=hZ (HD1.o.call (HD1.o.g.below hB) (qAg.of_below hB));clear hB hcl2
    go_wp2_with fail
    clear c0 f0 hv0 HE0 hW;refine(qAk W0 _ b v zs len (i+3) 2 HD1.o.g (by omega) (by omega) (by omega)).mono ?_;rintro e u1 ⟨rfl,hg,ho⟩;have HE1:=hZ (HD1.o.call hg ho);obtain⟨x1,hx1⟩:=eX (pkN zs len (i+3) 2);have hr1:=qAw zs len (i+3) 2 (by omega);rw[hx1]at hr1 ⊢;have Hx1:=hZ hx1;obtain⟨hr1a,hr1b⟩:=hr1;have hcl:=Hcl.o u1 ho;have hcx:=qE6 [0,7] hcl x1 hr1a hr1b;obtain⟨nn1,hnn1⟩:=eX (([0,7]:List Int).getD x1.toNat 0);rw[hnn1]at hcx;have Hn1:=hZ hnn1;clear hcl Hcl hnn1;clear hg ho HD1 hx1;have c1:u1.cell? ⟨bd,9,none⟩=some (.int .i64 0):=HE1.o.q.cell 9;have f1:=HE1.o.q.frozen 9;obtain⟨v1,hv1⟩:=eX (u1.setCell ⟨bd,9,none⟩ (.int .i64 nn1));have HD2:Hid (GD W0 w v1 b bd v zs len (i+4) { Dc.zero kk nm 0 with level:=x0,time:=nn1 } ls0):=hZ (hv1▸HE1.o.put 9 (.int .i64 nn1) rfl (HE1.o.l.same rfl rfl rfl rfl rfl))
    go_wp2_with fail
    clear c1 f1 hv1 HE1 hcx;refine(qAk W0 _ b v zs len (i+4) 3 HD2.o.g (by omega) (by omega) (by omega)).mono ?_;rintro e u2 ⟨rfl,hg,ho⟩;have HE2:=hZ (HD2.o.call hg ho);obtain⟨x2,hx2⟩:=eX (pkN zs len (i+4) 3);have hr2:=qAw zs len (i+4) 3 (by omega);rw[hx2]at hr2 ⊢;have Hx2:=hZ hx2;obtain⟨hr2a,hr2b⟩:=hr2;clear hg ho HD2 hx2;have c2:u2.cell? ⟨bd,10,none⟩=some (.int .i64 0):=HE2.o.q.cell 10;have f2:=HE2.o.q.frozen 10;obtain⟨v2,hv2⟩:=eX (u2.setCell ⟨bd,10,none⟩ (.int .i64 x2));have HD3:Hid (GD W0 w v2 b bd v zs len (i+5) { Dc.zero kk nm 0 with level:=x0,time:=nn1,chance:=x2 } ls0):=hZ (hv2▸HE2.o.put 10 (.int .i64 x2) rfl (HE2.o.l.same rfl rfl rfl rfl rfl))
    go_wp2_with fail
    clear c2 f2 hv2 HE2;refine(qAk W0 _ b v zs len (i+5) 12 HD3.o.g (by omega) (by omega) (by omega)).mono ?_;rintro e u3 ⟨rfl,hg,ho⟩;have HE3:=hZ (HD3.o.call hg ho);obtain⟨x3,hx3⟩:=eX (pkN zs len (i+5) 12);have hr3:=qAw zs len (i+5) 12 (by omega);rw[hx3]at hr3 ⊢;have Hx3:=hZ hx3;obtain⟨hr3a,hr3b⟩:=hr3;clear hg ho HD3 hx3;have c3:u3.cell? ⟨bd,11,none⟩=some (.int .i64 0):=HE3.o.q.cell 11;have f3:=HE3.o.q.frozen 11;obtain⟨v3,hv3⟩:=eX (u3.setCell ⟨bd,11,none⟩ (.int .i64 x3));have HD4:Hid (GD W0 w v3 b bd v zs len (i+6) { Dc.zero kk nm 0 with level:=x0,time:=nn1,chance:=x2,of_:=x3 } ls0):=hZ (hv3▸HE3.o.put 11 (.int .i64 x3) rfl (HE3.o.l.same rfl rfl rfl rfl rfl))
    go_wp2_with fail
    clear c3 f3 hv3 HE3;refine(qBD W0 _ b v zs len (i+6) HD4.o.g (by omega)).mono ?_;rintro e u4 ⟨⟨s4,rfl,hp⟩,hg,ho⟩;obtain⟨l4,hl4⟩:=eX (qBC (pkN zs len) (i+6));have hje:=qBd (qAw zs len) (i+6);obtain⟨j4,hj4⟩:=eX (qBm (pkN zs len) (i+6));rw[hl4]at hp;rw[hj4]at hg hje;obtain⟨a4,b4,rfl, -,-⟩:=TSl.form hp;have HE4:=hZ (HD4.o.call hg ho);have Hl4:=hZ hl4;have Hj4:=hZ hj4;have c4:u4.cell? ⟨bd,12,none⟩=some (.slice none 0 0):=HE4.o.q.cell 12;have f4:=HE4.o.q.frozen 12;obtain⟨v4,hv4⟩:=eX (u4.setCell ⟨bd,12,none⟩ (.slice a4 l4.length b4));have HD5:Hid (GD W0 w v4 b bd v zs len j4 { Dc.zero kk nm 0 with level:=x0,time:=nn1,chance:=x2,of_:=x3,take:=l4 } ⟨.slice a4 l4.length b4,.slice none 0 0,.slice none 0 0,.slice none 0 0,.slice none 0 0⟩):=hZ (hv4▸HE4.o.put 12 (.slice a4 l4.length b4) rfl ⟨hp,HE4.o.l.g,HE4.o.l.b,HE4.o.l.r,HE4.o.l.x⟩);clear hp hg ho hl4 hj4 HD4
    go_wp2_with fail
    clear c4 f4 hv4 HE4;refine(qBD W0 _ b v zs len (j4) HD5.o.g (by omega)).mono ?_;rintro e u5 ⟨⟨s5,rfl,hp⟩,hg,ho⟩;obtain⟨l5,hl5⟩:=eX (qBC (pkN zs len) (j4));have hje:=qBd (qAw zs len) (j4);obtain⟨j5,hj5⟩:=eX (qBm (pkN zs len) (j4));rw[hl5]at hp;rw[hj5]at hg hje;obtain⟨a5,b5,rfl, -,-⟩:=TSl.form hp;have HE5:=hZ (HD5.o.call hg ho);have Hl5:=hZ hl5;have Hj5:=hZ hj5;have c5:u5.cell? ⟨bd,13,none⟩=some (.slice none 0 0):=HE5.o.q.cell 13;have f5:=HE5.o.q.frozen 13;obtain⟨v5,hv5⟩:=eX (u5.setCell ⟨bd,13,none⟩ (.slice a5 l5.length b5));have HD6:Hid (GD W0 w v5 b bd v zs len j5 { Dc.zero kk nm 0 with level:=x0,time:=nn1,chance:=x2,of_:=x3,take:=l4,give:=l5 } ⟨.slice a4 l4.length b4,.slice a5 l5.length b5,.slice none 0 0,.slice none 0 0,.slice none 0 0⟩):=hZ (hv5▸HE5.o.put 13 (.slice a5 l5.length b5) rfl ⟨HE5.o.l.t,hp,HE5.o.l.b,HE5.o.l.r,HE5.o.l.x⟩);clear hp hg ho hl5 hj5 HD5
    go_wp2_with fail
    clear c5 f5 hv5 HE5;refine(qBD W0 _ b v zs len (j5) HD6.o.g (by omega)).mono ?_;rintro e u6 ⟨⟨s6,rfl,hp⟩,hg,ho⟩;obtain⟨l6,hl6⟩:=eX (qBC (pkN zs len) (j5));have hje:=qBd (qAw zs len) (j5);obtain⟨j6,hj6⟩:=eX (qBm (pkN zs len) (j5));rw[hl6]at hp;rw[hj6]at hg hje;obtain⟨a6,b6,rfl, -,-⟩:=TSl.form hp;have HE6:=hZ (HD6.o.call hg ho);have Hl6:=hZ hl6;have Hj6:=hZ hj6;have c6:u6.cell? ⟨bd,14,none⟩=some (.slice none 0 0):=HE6.o.q.cell 14;have f6:=HE6.o.q.frozen 14;obtain⟨v6,hv6⟩:=eX (u6.setCell ⟨bd,14,none⟩ (.slice a6 l6.length b6));have HD7:Hid (GD W0 w v6 b bd v zs len j6 { Dc.zero kk nm 0 with level:=x0,time:=nn1,chance:=x2,of_:=x3,take:=l4,give:=l5,back:=l6 } ⟨.slice a4 l4.length b4,.slice a5 l5.length b5,.slice a6 l6.length b6,.slice none 0 0,.slice none 0 0⟩):=hZ (hv6▸HE6.o.put 14 (.slice a6 l6.length b6) rfl ⟨HE6.o.l.t,HE6.o.l.g,hp,HE6.o.l.r,HE6.o.l.x⟩);clear hp hg ho hl6 hj6 HD6
    go_wp2_with fail
    clear c6 f6 hv6 HE6
    go_meet
    case rel=>
     refine⟨⟨.slice a4 l4.length b4,.slice a5 l5.length b5,.slice a6 l6.length b6,.slice none 0 0,.slice none 0 0⟩,?_⟩;rw[HJ.o,HX.o];unfold qCa;rw[Hj4.o,Hj5.o,Hj6.o,Hx0.o,Hx1.o,Hn1.o,Hx2.o,Hx3.o,Hl4.o,Hl5.o,Hl6.o];exact HD7
  ·have q0:(kk==0)=false:=by simp;omega
   have q1:(kk==1)=false:=by simp;omega
   have q2:(kk==2)=false:=by simp;omega
   have q3:(kk==3)=true:=by simp;omega
   have HX:Hid (qBi (pkN zs len) i=qEj (pkN zs len) i (Dc.zero kk nm 0)):=hZ (by unfold qBi;rw[Hkk.o,Hnm.o];simp only[];rw[if_neg (by omega),if_neg (by omega),if_pos (by omega)]);have HJ:Hid (qBh (pkN zs len) i=qAP (pkN zs len) ((pkN zs len (i+2) 3).toNat+1) (i+3)):=hZ (by unfold qBh;rw[Hkk.o];rw[if_neg (by omega),if_neg (by omega),if_pos (by omega)]);have HX2:=HX.o;unfold qEj at HX2;replace HX:=hZ HX2;clear hk0 HX2
   go_wp2_with fail
   refine(qAk W0 _ b v zs len (i+2) 3 HD0.o.g (by omega) (by omega) (by omega)).mono ?_;rintro e u0 ⟨rfl,hg,ho⟩;have HE0:=hZ (HD0.o.call hg ho);obtain⟨x0,hx0⟩:=eX (pkN zs len (i+2) 3);have hr0:=qAw zs len (i+2) 3 (by omega);rw[hx0]at hr0 HX HJ ⊢;obtain⟨KT,hKT⟩:=eX (x0.toNat+1);rw[hKT]at HX HJ;have hxK:x0+1=(KT:Int):=by omega
   have hK3:KT<=3:=by omega
   have hbdu:bd<u0.heap.size:=qAq HE0.o.q;have HX0:=hZ HE0.o.x;clear hg ho HD0 hx0 hr0 hKT HE0
   go_wp2_with fail
   go_loopw [4] (fun iv wr=>∃(k j:Nat) (acc:List (List Pr)) (us:List Value) (rv:Value) (z:Int),iv=.int .i64 z/\z+1=(k:Int)/\j+8*k<=i+3+8*KT/\acc.length+k=KT/\Hid (acc++qBL (pkN zs len) k j=qBL (pkN zs len) KT (i+3))/\Hid (qAP (pkN zs len) k j=qAP (pkN zs len) KT (i+3))/\Hid (u0.heap.size<=wr.heap.size)/\Hid (wr.ownsRow u0.heap.size 30 1 rv acc.length us)/\Hid (qDN 74 wr us acc)/\Hid (GX W0 w wr b bd v zs len j (Dc.zero kk nm 0) ⟨.slice none 0 0,.slice none 0 0,.slice none 0 0,rv,.slice none 0 0⟩)) (fun iv _=>(intOf iv+1).toNat)
   case atStart=>exact⟨KT,i+3,[],[],.slice none 0 0,x0,rfl,hxK,Nat.le_refl _,by simp,hZ rfl,hZ rfl,hZ (Nat.le_refl _),hZ (World.ownsRow_nil _ _ _ _),hZ (qDN.nil _ _),HX0⟩
   case round=>
    clear HX0;obtain⟨k,j,acc,us,rv,z,rfl,hz,hj,hal,HQ,HE,HZ,HO,HV,HG⟩:=hrel;by_cases hz0:0<=z;rotate_left
    ·have hk0:k=0:=by omega
     subst hk0;have hF:∃y,Hid (GD W0 w wr b bd v zs len (qBh (pkN zs len) i) (qBi (pkN zs len) i) y):=by
      refine⟨⟨.slice none 0 0,.slice none 0 0,.slice none 0 0,rv,.slice none 0 0⟩,hZ ?_⟩;have hq:=HQ.o;have he:=HE.o;rw[qBL,List.append_nil]at hq;rw[qAP]at he;rw[HJ.o,HX.o,<-hq,<-he];have hb9:=qDN.rows HV.o HO.o;have hn:=qIl wr (Dc.zero kk nm 0) rfl rfl rfl rfl rfl;exact GX.gd (d:={ Dc.zero kk nm 0 with rows:=acc }) ⟨HG.o.g,HG.o.q,HG.o.r,HG.o.k,HG.o.lo,HG.o.hb⟩ ⟨hn.t,hn.g,hn.b,hb9,hn.x⟩
     clear HQ HE HZ HO HV HG hj hal
     go_wp2_with fail
     go_meet
     case rel=>exact hF
    ·obtain⟨k,rfl⟩:∃k',k=k'+1:=⟨k-1,by omega⟩
     have hwr:IntKind.i64.wrap (z-1)=z-1:=IntWalk.i64_in _ (by omega);have HCa:=hZ (qAk W0 wr b v zs len j 20 HG.o.g (by omega) (by omega) (by omega))
     go_wp2_with fail
     refine HCa.o.mono ?_;rintro e w3 ⟨rfl,hg,ho⟩;have hk3:=HG.o.g.kpx ho;have HG3:=hZ (HG.o.call hg ho);have HO3:=hZ (qBJ HO.o hk3 (by decide));have HV3:=hZ (HV.o.kp hk3 (by decide));have HZ3:Hid (u0.heap.size<=w3.heap.size):=hZ (Nat.le_trans HZ.o ho.size);have hbd3:bd<w3.heap.size:=qAq HG3.o.q;obtain⟨n,hn⟩:=eX (pkN zs len j 20);rw[hn];have Hn:=hZ hn;clear hg ho hn hk3 HCa HG HO HZ HV;obtain⟨w4,hw4⟩:=eX (w3.alloc (.cells #[.int .i64 n,.string ⟨#[]⟩,.int .i64 0] 74));have hB4:Below w3.heap.size w3 w4:=by rw[<-hw4];exact qAa _ _
     have hR4:w4.ownsRow w3.heap.size 74 3 (.slice (some ⟨w3.heap.size,0,none⟩) 1 1) 1 (prC ⟨n,[],0⟩):=by rw[<-hw4];exact qIi w3 _ (prC ⟨n,[],0⟩) 3 w3.heap.size rfl (Nat.le_refl _)
     obtain⟨wd,hwd⟩:=eX w4.drew;have hBd:Below w4.heap.size w4 wd:=by rw[<-hwd];exact qAc _
     have hB3:Below w3.heap.size w3 wd:=hB4.trans (hBd.mono hB4.size);have HGd:=hZ (HG3.o.below hB3);have HRd:=hZ ((qAg.of_below (S:=fun _=>False) hBd).own hR4 (fun _ _ h=>h));have HKd:Hid (KpX [71] w3 wd):=hZ (KpX.of_below hB3);have HSd:=hZ hB3.size;have c4:w4.cell? ⟨bd,15,none⟩=some rv:=(HG3.o.below hB4).q.cell 15;have HC3:=hZ (qBD W0 wd b v zs len (j+1) HGd.o.g (by omega));clear hBd hB4 hB3 HG3 hR4
     go_wp2_with fail
     clear hw4;refine qAs [9] (fun W=>W.cell? ⟨bd,15,none⟩=some rv) (by kernel_rfl) (c4) (fun hHeld=> ?_);rw[hwd]at hHeld ⊢;clear hwd c4;refine pU 0 80 ?_;refine qAb 1 81 (v:= ?_) rfl rfl (by kernel_rfl) (by kernel_rfl) (by kernel_rfl) (by kernel_rfl) (by kernel_rfl) (fun _ _ _ h=>h) (by rfl) ?_ (by assumption) ?_;rotate_left
     ·(intro w hSw;go_simp;first|done|with_reducible rfl)
     simp only[sX1,sX2,sX3];refine pU 2 82 ?_;refine pU 3 83 ?_;refine eU 4 fun K hK=> ?_;go_simp;refine HC3.o.mono ?_;rintro e w5 ⟨⟨s5,rfl,hp⟩,hg,ho⟩;have hk5:=HKd.o.trans (HGd.o.g.kpx ho);have hje:=qBd (qAw zs len) (j+1);have hll:=(qCl (qAw zs len) (j+1)).1;obtain⟨l5,hl5⟩:=eX (qBC (pkN zs len) (j+1));obtain⟨j5,hj5⟩:=eX (qBm (pkN zs len) (j+1));rw[hl5]at hp hll;rw[hj5]at hg hje;obtain⟨a5,p5,rfl, -,-⟩:=TSl.form hp;have HQ5:Hid ((acc++[⟨n,[],0⟩::l5])++qBL (pkN zs len) k j5=qBL (pkN zs len) KT (i+3)):=hZ (by rw[<-HQ.o,qBL,qKO,Hn.o,hl5,hj5];simp);have HE5:Hid (qAP (pkN zs len) k j5=qAP (pkN zs len) KT (i+3)):=hZ (by rw[<-HE.o,qAP,hj5]);have HP5:=hZ hp;have HG5:=hZ (HGd.o.call hg ho);have HR5:=hZ (ho.own HRd.o (fun g e he=>by have:=(HRd.o.lt g e).1;have:=HGd.o.hb;omega));have HK5:=hZ hk5;have HS5:Hid (w3.heap.size<=w5.heap.size):=hZ (Nat.le_trans HSd.o ho.size);have c5:w5.cell? ⟨bd,15,none⟩=some rv:=HG5.o.q.cell 15;clear hg ho hp hk5 hl5 hj5 HC3 HGd HRd HKd HSd HQ HE Hn hHeld
     go_wp2_with fail
     refine hK.out _ _ (c5) (fun hHeld=> ?_);clear hK K
     try simp only[Act.put,sX1,sX2,sX3]
     clear c5;refine eU 5 fun K hK=> ?_;obtain⟨q1,q2,q3,q4⟩:=qH8 HP5.o;refine qDu (W0:=w5) qGx rfl _ _ rfl _ 1 _ rfl HR5.o a5 l5.length p5 (l5.flatMap prC) rfl q1 q2 q3 q4 (by omega) (by omega) HS5.o (Below.refl _ _) ?_;intro v6 w6 HR6 HB6 HF6;have HG6:=hZ (HG5.o.behind HB6.o hbd3);have HK6:=hZ (HK5.o.late HF6.o HS5.o (fun g e=>(HR5.o.lt g e).1));obtain⟨r6,hr6⟩:=eX ((⟨n,[],0⟩::l5:List Pr));have hP6:qAD 74 w6 v6 r6:=by rw[<-hr6];exact qAD.of_own (by have:=HR6.o;simpa[Nat.add_comm]using this)
     rw[hr6]at HQ5;obtain⟨a6,p6,rfl, -,-⟩:=TSl.form hP6;have HP6:=hZ hP6;have HO6:=hZ (qBJ HO3.o HK6.o (by decide));have HV6:=hZ (HV3.o.kp HK6.o (by decide));have HZ6:Hid (u0.heap.size<=w6.heap.size):=hZ (Nat.le_trans HZ3.o (Nat.le_trans HS5.o HB6.o.size));have c6:w6.cell? ⟨bd,15,none⟩=some rv:=HG6.o.q.cell 15;clear q1 q2 q3 q4 hP6 hr6 HR5 HR6 HB6 HF6 HG5 HK5 HS5 HP5 HO3 HV3 HZ3 HK6
     go_wp2_with fail
     refine hK.out _ _ (c6) (fun hHeld=> ?_);clear hK K
     try simp only[Act.put,sX1,sX2,sX3]
     clear c6;obtain⟨w7,hw7⟩:=eX (w6.alloc (.cells #[.slice a6 r6.length p6] 30));have hB7:Below w6.heap.size w6 w7:=by rw[<-hw7];exact qAa _ _
     have HW7:Hid (qAy w7 w6.heap.size 30 [.slice a6 r6.length p6]):=hZ (by rw[<-hw7];exact qAy.new _ _ _);have HG7:=hZ (HG6.o.below hB7);have HO7:=hZ ((qAg.of_below (S:=fun _=>False) hB7).own HO6.o (fun _ _ h=>h));have HV7:=hZ (HV6.o.kp (KpX.of_below (X:=[]) hB7) (by simp));have HP7:=hZ (HP6.o.kp (KpX.of_below (X:=[]) hB7) (by simp));have HZ7:Hid (u0.heap.size<=w7.heap.size):=hZ (Nat.le_trans HZ6.o hB7.size);have c7:w7.cell? ⟨bd,15,none⟩=some rv:=HG7.o.q.cell 15;have hac:acc.length<=3:=by omega
     clear hB7 HG6 HO6 HV6 HP6 HZ6;refine eU 6 fun K hK=> ?_;go_simp;clear hw7
     go_wp2_with fail
     refine hK.out _ _ (c7) (fun hHeld=> ?_);clear hK K
     try simp only[Act.put,sX1,sX2,sX3]
     clear c7;refine eU 7 fun K hK=> ?_;refine qBS (W0:=w7) qG2 rfl _ _ rfl [.slice a6 r6.length p6] w6.heap.size _ _ _ rfl rfl HW7.o rfl (by simp[Value.oneCell']) HO7.o (Below.refl _ _) HZ7.o (by omega) (by omega) ?_;intro g8 cap8 w8 HO8 HB8 HF8 hcap8 hcap8b;have HK8:=hZ (KpX.own (X:=[30]) HO7.o HF8.o (by simp));have HG8:=hZ (HG7.o.behind HB8.o hbdu);have HV8:=hZ ((HV7.o.kp HK8.o (by decide)).snoc (HP7.o.kp HK8.o (by decide)));have HZ8:Hid (u0.heap.size<=w8.heap.size):=hZ (Nat.le_trans HZ7.o HB8.o.size);clear HO7 HG7 HB8 HF8 HW7 HZ7 HV7 HP7 HK8;have c8:w8.cell? ⟨bd,15,none⟩=some rv:=HG8.o.q.cell 15;have f8:=HG8.o.q.frozen 15;obtain⟨acc',ha'⟩:∃acc',acc++[r6]=acc':=⟨_,rfl⟩;obtain⟨us',hu'⟩:∃us',us++[Value.slice a6 r6.length p6]=us':=⟨_,rfl⟩;have hal2:acc.length+1=acc'.length:=by rw[<-ha'];simp
     rw[ha',hu']at HV8;rw[ha']at HQ5;rw[hal2,hu']at HO8;rw[hal2];have HS:=HG8.o.put (y':=⟨.slice none 0 0,.slice none 0 0,.slice none 0 0,.slice (some ⟨g8,0,none⟩) acc'.length cap8,.slice none 0 0⟩) (d':=Dc.zero kk nm 0) 15 (.slice (some ⟨g8,0,none⟩) acc'.length cap8) rfl;obtain⟨w9,hw9⟩:=eX (w8.setCell ⟨bd,15,none⟩ (.slice (some ⟨g8,0,none⟩) acc'.length cap8));rw[hw9]at HS;have HG9:=hZ HS.1;have HO9:=hZ (qBJ HO8.o HS.2 (by decide));have HV9:=hZ (HV8.o.kp HS.2 (by decide));have HZ9:Hid (u0.heap.size<=w9.heap.size):=hZ (by rw[<-hw9];have:=HZ8.o;simpa[World.setCell]using this);clear HS HG8 HO8 HV8 HZ8 ha' hu' hac hcap8 hcap8b
     go_wp2_with fail
     refine hK.out _ _ (c8) (fun hHeld=> ?_);clear hK K
     try simp only[Act.put,sX1,sX2,sX3]
     refine pU 8 88 ?_;refine lU 9 fun K hK=> ?_;go_simp;refine hK.out _ _ ?_;clear hK K
     try simp only[Act.put,sX1,sX2,sX3]
     refine dU ?_;clear hHeld;clear hw9 c8 f8
     go_wp2_with fail
     go_roundw
     case rel=>exact⟨k,j5,acc',us',_,z-1,by go_num,by omega,by omega,by omega,HQ5,HE5,HZ9,HO9,HV9,HG9⟩
     case measure=>simp[intOf];omega
  ·have q0:(kk==0)=false:=by simp;omega
   have q1:(kk==1)=false:=by simp;omega
   have q2:(kk==2)=false:=by simp;omega
   have q3:(kk==3)=false:=by simp;omega
   have q4:(kk==4)=true:=by simp;omega
   have HX:Hid (qBi (pkN zs len) i=qGs (pkN zs len) i (Dc.zero kk nm 0)):=hZ (by unfold qBi;rw[Hkk.o,Hnm.o];simp only[];rw[if_neg (by omega),if_neg (by omega),if_neg (by omega)]);have HJ:Hid (qBh (pkN zs len) i=i+3+2*((pkN zs len (i+2) 3).toNat+1)):=hZ (by unfold qBh;rw[Hkk.o];rw[if_neg (by omega),if_neg (by omega),if_neg (by omega)]);have HX2:=HX.o;unfold qGs at HX2;replace HX:=hZ HX2;clear hk0 HX2
   go_wp2_with fail
   refine(qAk W0 _ b v zs len (i+2) 3 HD0.o.g (by omega) (by omega) (by omega)).mono ?_;rintro e u0 ⟨rfl,hg,ho⟩;have HE0:=hZ (HD0.o.call hg ho);obtain⟨x0,hx0⟩:=eX (pkN zs len (i+2) 3);have hr0:=qAw zs len (i+2) 3 (by omega);rw[hx0]at hr0 HX HJ ⊢;obtain⟨KT,hKT⟩:=eX (x0.toNat+1);rw[hKT]at HX HJ;have hxK:x0+1=(KT:Int):=by omega
   have hK3:KT<=3:=by omega
   have hbdu:bd<u0.heap.size:=qAq HE0.o.q;have HX0:=hZ HE0.o.x;clear hg ho HD0 hx0 hr0 hKT HE0
   go_wp2_with fail
   go_loopw [6] (fun iv wr=>∃(k j:Nat) (acc:List (Int×Int)) (xv:Value) (z:Int),iv=.int .i64 z/\z+1=(k:Int)/\j+2*k=i+3+2*KT/\acc.length+k=KT/\Hid (acc++qDq (pkN zs len) k j=qDq (pkN zs len) KT (i+3))/\Hid (u0.heap.size<=wr.heap.size)/\Hid (wr.ownsRow u0.heap.size 76 2 xv acc.length (acc.flatMap brC))/\Hid (GX W0 w wr b bd v zs len j (Dc.zero kk nm 0) ⟨.slice none 0 0,.slice none 0 0,.slice none 0 0,.slice none 0 0,xv⟩)) (fun iv _=>(intOf iv+1).toNat)
   case atStart=>exact⟨KT,i+3,[],.slice none 0 0,x0,rfl,hxK,rfl,by simp,hZ rfl,hZ (Nat.le_refl _),hZ (World.ownsRow_nil _ _ _ _),HX0⟩
   case round=>
    clear HX0;obtain⟨k,j,acc,xv,z,rfl,hz,hj,hal,HQ,HZ,HO,HG⟩:=hrel;by_cases hz0:0<=z;rotate_left
    ·have hk0:k=0:=by omega
     subst hk0;have hj9:j=i+3+2*KT:=by omega
     have hF:∃y,Hid (GD W0 w wr b bd v zs len (qBh (pkN zs len) i) (qBi (pkN zs len) i) y):=by
      refine⟨⟨.slice none 0 0,.slice none 0 0,.slice none 0 0,.slice none 0 0,xv⟩,hZ ?_⟩;have hq:=HQ.o;rw[qDq,List.append_nil]at hq;rw[HJ.o,HX.o,<-hq,<-hj9];have hb9:=qCA.of_own HO.o;have hn:=qIl wr (Dc.zero kk nm 0) rfl rfl rfl rfl rfl;exact GX.gd (d:={ Dc.zero kk nm 0 with brs:=acc }) ⟨HG.o.g,HG.o.q,HG.o.r,HG.o.k,HG.o.lo,HG.o.hb⟩ ⟨hn.t,hn.g,hn.b,hn.r,hb9⟩
     clear HQ HZ HO HG hj hal hj9
     go_wp2_with fail
     go_meet
     case rel=>exact hF
    ·obtain⟨k,rfl⟩:∃k',k=k'+1:=⟨k-1,by omega⟩
     have hwr:IntKind.i64.wrap (z-1)=z-1:=IntWalk.i64_in _ (by omega);have HCa:=hZ (qAk W0 wr b v zs len j 1000 HG.o.g (by omega) (by omega) (by omega))
     go_wp2_with fail
     refine HCa.o.mono ?_;rintro e w3 ⟨rfl,hg,ho⟩;have HG3:=hZ (HG.o.call hg ho);have HO3:=hZ (ho.own HO.o (fun g e he=>by have:=(HO.o.lt g e).1;omega));have HZ3:Hid (u0.heap.size<=w3.heap.size):=hZ (Nat.le_trans HZ.o ho.size);obtain⟨n,hn⟩:=eX (pkN zs len j 1000);rw[hn];have Hn:=hZ hn;clear hg ho hn HCa HG HO HZ;obtain⟨wd,hwd⟩:=eX w3.drew;have hBd:Below w3.heap.size w3 wd:=by rw[<-hwd];exact qAc _
     have HGd:=hZ (HG3.o.below hBd);have HOd:=hZ ((qAg.of_below (S:=fun _=>False) hBd).own HO3.o (fun _ _ h=>h));have HZd:Hid (u0.heap.size<=wd.heap.size):=hZ (Nat.le_trans HZ3.o hBd.size);have c3:w3.cell? ⟨bd,16,none⟩=some xv:=HG3.o.q.cell 16;have HC3:=hZ (qAk W0 wd b v zs len (j+1) 10001 HGd.o.g (by omega) (by omega) (by omega));clear hBd HG3 HO3 HZ3
     go_wp2_with fail
     refine qAs [9] (fun W=>W.cell? ⟨bd,16,none⟩=some xv) (by kernel_rfl) (c3) (fun hHeld=> ?_);rw[hwd]at hHeld ⊢;clear hwd c3;refine pU 0 99 ?_;refine qAb 1 100 (v:= ?_) rfl rfl (by kernel_rfl) (by kernel_rfl) (by kernel_rfl) (by kernel_rfl) (by kernel_rfl) (fun _ _ _ h=>h) (by rfl) ?_ (by assumption) ?_;rotate_left
     ·(intro w hSw;go_simp;first|done|with_reducible rfl)
     simp only[sX1,sX2,sX3];refine pU 2 101 ?_;refine pU 3 102 ?_;refine eU 4 fun K hK=> ?_;go_simp;refine HC3.o.mono ?_;rintro e w4 ⟨rfl,hg,ho⟩;have HG4:=hZ (HGd.o.call hg ho);have HO4:=hZ (ho.own HOd.o (fun g e he=>by have:=(HOd.o.lt g e).1;omega));have HZ4:Hid (u0.heap.size<=w4.heap.size):=hZ (Nat.le_trans HZd.o ho.size);obtain⟨m,hm⟩:=eX (pkN zs len (j+1) 10001);rw[hm];have Hm:=hZ hm;have c4:w4.cell? ⟨bd,16,none⟩=some xv:=HG4.o.q.cell 16;clear hg ho hm HC3 HGd HOd HZd hHeld
     go_wp2_with fail
     refine hK.out _ _ (c4) (fun hHeld=> ?_);clear hK K
     try simp only[Act.put,sX1,sX2,sX3]
     clear c4;obtain⟨w5,hw5⟩:=eX (w4.alloc (.cells #[.int .i64 n,.int .i64 m] 76));have hB5:Below w4.heap.size w4 w5:=by rw[<-hw5];exact qAa _ _
     have HW5:Hid (qAy w5 w4.heap.size 76 (brC (n,m))):=hZ (by rw[<-hw5];exact qAy.new _ _ _);have HG5:=hZ (HG4.o.below hB5);have HO5:=hZ ((qAg.of_below (S:=fun _=>False) hB5).own HO4.o (fun _ _ h=>h));have HZ5:Hid (u0.heap.size<=w5.heap.size):=hZ (Nat.le_trans HZ4.o hB5.size);have c5:w5.cell? ⟨bd,16,none⟩=some xv:=HG5.o.q.cell 16;have hac:acc.length<=3:=by omega
     clear hB5 HG4 HO4 HZ4;refine pU 5 104 ?_;refine eU 6 fun K hK=> ?_;go_simp;clear hw5 hHeld
     go_wp2_with fail
     refine hK.out _ _ (c5) (fun hHeld=> ?_);clear hK K
     try simp only[Act.put,sX1,sX2,sX3]
     clear c5;refine eU 7 fun K hK=> ?_;refine qBS (W0:=w5) qJ2 rfl _ _ rfl (brC (n,m)) w4.heap.size _ _ _ rfl rfl HW5.o rfl (by simp[brC,Value.oneCell']) HO5.o (Below.refl _ _) HZ5.o (by omega) (by omega) ?_;intro g6 cap6 w6 HO6 HB6 HF6 hcap6 hcap6b;have HG6:=hZ (HG5.o.behind HB6.o hbdu);have HZ6:Hid (u0.heap.size<=w6.heap.size):=hZ (Nat.le_trans HZ5.o HB6.o.size);clear HO5 HG5 HB6 HF6 HW5 HZ5;have c6:w6.cell? ⟨bd,16,none⟩=some xv:=HG6.o.q.cell 16;have f6:=HG6.o.q.frozen 16;obtain⟨acc',ha'⟩:∃acc',acc'=acc++[(n,m)]:=⟨_,rfl⟩;have hal2:acc.length+1=acc'.length:=by rw[ha'];simp
     have hfl:acc.flatMap brC++brC (n,m)=acc'.flatMap brC:=by rw[ha'];simp
     rw[hal2,hfl]at HO6;rw[hal2];have HQ7:Hid (acc'++qDq (pkN zs len) k (j+2)=qDq (pkN zs len) KT (i+3)):=hZ (by rw[<-HQ.o,ha',qDq,Hn.o,Hm.o];simp);have HS:=HG6.o.put (y':=⟨.slice none 0 0,.slice none 0 0,.slice none 0 0,.slice none 0 0,.slice (some ⟨g6,0,none⟩) acc'.length cap6⟩) (d':=Dc.zero kk nm 0) 16 (.slice (some ⟨g6,0,none⟩) acc'.length cap6) rfl;obtain⟨w7,hw7⟩:=eX (w6.setCell ⟨bd,16,none⟩ (.slice (some ⟨g6,0,none⟩) acc'.length cap6));rw[hw7]at HS;have HG7:=hZ HS.1;have HO7:=hZ (qBJ HO6.o HS.2 (by decide));have HZ7:Hid (u0.heap.size<=w7.heap.size):=hZ (by rw[<-hw7];have:=HZ6.o;simpa[World.setCell]using this);clear HS HG6 HO6 HZ6 hHeld ha' hfl hac hcap6 hcap6b HQ
     go_wp2_with fail
     refine hK.out _ _ (c6) (fun hHeld=> ?_);clear hK K
     try simp only[Act.put,sX1,sX2,sX3]
     refine pU 8 107 ?_;refine lU 9 fun K hK=> ?_;go_simp;refine hK.out _ _ ?_;clear hK K
     try simp only[Act.put,sX1,sX2,sX3]
     refine dU ?_;clear hHeld;clear hw7 c6 f6
     go_wp2_with fail
     go_roundw
     case rel=>exact⟨k,j+2,acc',_,z-1,by go_num,by omega,by omega,by omega,HQ7,HZ7,HO7,HG7⟩
     case measure=>simp[intOf];omega
 case rest=>
  clear HD0;obtain⟨y9,HF⟩:=hcut;have HF9:=hZ HF.o;obtain⟨d5,hd5⟩:=eX (qBi (pkN zs len) i);obtain⟨j5,hj5⟩:=eX (qBh (pkN zs len) i);rw[hd5,hj5]at HF9;have Hd5:=hZ hd5;have Hj5:=hZ hj5;clear hd5 hj5 HF;have hd9:=HF9.o.q;have hy9:=HF9.o.l;have hsz:(dcC d5 y9).toArray.size=17:=rfl;have hon:=qJI ⟨y9,hd9,hy9⟩ hd9 hy9;have hr9:QD wc w.heap.size (Dc.zero 0 [] 0) ls0:=HF9.o.r;have hX9:KpX [34] wc (wc.setRow w.heap.size (dcC d5 y9).toArray):=qHV hr9 _;have hR9:=qHf hr9 (dcC d5 y9).toArray;have HE9:=hZ (hy9.kp hX9 (by decide) (by decide) (by decide));have HQ9:=hZ (HF9.o.g.behind hb hs (below_setRow (Below.refl w.heap.size wc) (Nat.le_refl _) (dcC d5 y9).toArray));have HK9:=hZ (qGa HF9.o.k (dcC d5 y9).toArray);obtain⟨C,hC⟩:=eX ((dcC d5 y9).toArray);unfold QD at hd9 hr9;rw[hC]at hsz hon hd9 hR9 HE9 HQ9 HK9;have HC:=hZ hC;clear hy9 hX9 hC;have hi9:(Tryd.prog.info? 34).map (·.size)=some C.size:=by rw[hsz];kernel_rfl
  go_wp2_with (first|refine wpList_load_row rfl _ _ rfl bd rfl _ C (0,0) _ hd9 Tryd.underlying34 rfl hi9 ?_|refine wpList_store_row rfl _ _ _ rfl w.heap.size C rfl rfl _ _ hr9 hi9 hsz.symm hon ?_)
  obtain⟨w10,hw10⟩:=eX (wc.setRow w.heap.size C);rw[hw10]at hR9 HE9 HQ9 HK9;rw[hw10];clear hw10 hd9 hr9 hon hsz;refine bodyPost_ret (v:=.agg C) (results_cell_row rfl _ _ w.heap.size _ C (0,0) _ rfl hR9 Tryd.underlying34 rfl hi9) rfl ?_;clear hi9;rw[Hd5.o,Hj5.o];rw[<-HC.o];exact⟨⟨y9,rfl,HE9.o⟩,HQ9.o,HK9.o⟩
theorem qA3.form{w:World}{v:Value}{zs:List Int}{len:Nat}(h:qA3 w v zs len):∃a c,v=.slice a len c:=by
 rcases h with ⟨a,cap,h1,rfl,-⟩|⟨b,off,cap,h1,-⟩
 ·exact⟨_,_,h1⟩
 ·exact⟨_,_,h1⟩
theorem qDA{p:Pk}(h:qG6 p):∀k i,qAP p k i<=i+8*k
 |0,i=>by simp[qAP]
 |k+1,i=>by
  have h1:=qBd h (i+1);have h2:=qDA h k (qBm p (i+1));rw[qAP];omega
theorem qIy{p:Pk}(h:qG6 p)(i:Nat):qBh p i<=i+27:=by
 have h1:=qBd h (i+6);have h2:=qBd h (qBm p (i+6));have h3:=qBd h (qBm p (qBm p (i+6)));have h4:=qDA h ((p (i+2) 3).toNat+1) (i+3);have h5:=h (i+2) 3 (by omega);unfold qBh
 split
 ·omega
 split
 ·omega
 split<;>omega
def Dvs(w:World)(css:List (List Value))(l:List Dc):Prop:=css.length=l.length/\∀j (h:j<l.length) (h':j<css.length),qF4 74 30 w css[j] l[j]
theorem Dvs.kp{X:List TypeId}{w w':World}{css:List (List Value)}{l:List Dc}(h:Dvs w css l)(hk:KpX X w w')(h1:74∉X)(h2:30∉X)(h3:76∉X):Dvs w' css l:=⟨h.1,fun j a b=>(h.2 j a b).kp hk h1 h2 h3⟩
theorem Dvs.snoc{w:World}{css:List (List Value)}{l:List Dc}{cs:List Value}{d:Dc}(h:Dvs w css l)(hd:qF4 74 30 w cs d):Dvs w (css++[cs]) (l++[d]):=by
 refine⟨by simp[h.1],fun j a b=> ?_⟩;have hl:=h.1;by_cases hx:j<l.length
 ·rw[List.getElem_append_left hx,List.getElem_append_left (by omega)]
  exact h.2 j hx (by omega)
 ·have h3:j=l.length:=by simp at a;omega
  subst h3;rw[List.getElem_append_right (Nat.le_refl _),List.getElem_append_right (by omega)];simpa[hl]using hd
theorem Dvs.row{w:World}{B:Nat}{v:Value}{css:List (List Value)}{l:List Dc}(h:Dvs w css l)(ho:w.ownsRow B 34 17 v l.length css.flatten):qCQ 74 30 34 w v l:=by
 refine TSl.of_own (css:=css) (base:=B) (n:=l.length) ho rfl (fun cs hc=> ?_) h.1 (fun j a b=>h.2 j a b);obtain⟨j,hj,rfl⟩:=List.mem_iff_getElem.1 hc;obtain⟨y,hy,-⟩:=h.2 j (by rw[<-h.1];exact hj) hj;rw[hy];rfl
theorem qHE(v:Value)(zs:List Int)(len:Nat)(w:World)(h:qA3 w v zs len):
 Calls Tryd.prog 12 #[v] w fun e w'=>(∃u,e=.returned u/\qCQ 74 30 34 w' u (qEk (pkN zs len)))/\Below w.heap.size w w':=by
 obtain⟨w1,hw1⟩:=eX (w.alloc (.cells #[v,.int .i64 0] 71));have hB1:Below w.heap.size w w1:=by rw[<-hw1];exact qAa _ _
 have hb1:GB w1 w.heap.size v 0:=by rw[<-hw1];exact heap_alloc_new w _
 have hg0:GSt w w1 w.heap.size v zs len 0:=⟨hb1,hB1,Nat.le_refl _,h⟩;obtain⟨b,hb⟩:=eX w.heap.size;rw[hb]at hg0 hb1;have hlt:=hg0.lt;have HC:=hZ (qAk w w1 b v zs len 0 6 hg0 (by omega) (by omega) (by omega));have hbw:w1.heap.size=b+1:=by rw[<-hw1,<-hb];simp
 obtain⟨c,hc,hc6,HL⟩:∃c:Nat,pkN zs len 0 6=(c:Int)/\c<=6/\Hid (qEk (pkN zs len)=qA0 (pkN zs len) c 1):=
  ⟨(pkN zs len 0 6).toNat,by have:=qAw zs len 0 6 (by omega);omega,by have:=qAw zs len 0 6 (by omega);omega,hZ rfl⟩
 rw[hc]at HC;rw[HL.o];obtain⟨va,vc,rfl⟩:=h.form;clear h hb1 hB1 hg0 hc HL
 go_enter Tryd.func12,Tryd.ntmps12
 go_wp2_with fail
 try rw[hb]
 refine HC.o.mono ?_;rintro e w2 ⟨rfl,hg,ho⟩;have HG0:=hZ hg;have hs2:b+1<=w2.heap.size:=by have:=ho.size;omega
 clear hg ho HC hw1
 go_wp2_with fail
 go_loopw [4,5] (fun ov iv wr=>∃(k j:Nat) (ds:List Dc) (css:List (List Value)),k<=c/\iv=.int .i64 k/\j+27*k<=1+27*c/\ds.length+k=c/\Hid (wr.ownsRow (b+1) 34 17 ov ds.length css.flatten)/\Hid (Dvs wr css ds)/\Hid (ds++qA0 (pkN zs len) k j=qA0 (pkN zs len) c 1)/\Hid (GSt w wr b (.slice va len vc) zs len j)/\Hid (b+1<=wr.heap.size)) (fun _ iv _=>(intOf iv).toNat)
 case atStart=>exact⟨c,1,[],[],Nat.le_refl _,rfl,Nat.le_refl _,by simp,hZ (World.ownsRow_nil _ _ _ _),hZ ⟨rfl,fun j h=>by simp at h⟩,hZ rfl,HG0,hZ hs2⟩
 case round=>
  obtain⟨k,j,ds,css,hk,rfl,hj,hal,HO,HV,HQ,HG,HS⟩:=hrel;cases k with
  |zero=>
   have hn0:¬(0:Int)<((0:Nat):Int):=by omega
   have HP:Hid (qCQ 74 30 34 wr _ (qA0 (pkN zs len) c 1)):=hZ (by
    have h9:=HQ.o;rw[qA0,List.append_nil]at h9;rw[<-h9];exact HV.o.row HO.o)
   have HB:Hid (Below b w wr):=hZ (by have h9:=HG.o.bel;rw[hb]at h9;exact h9);clear HO HV HQ HG HS
   go_wp2_with fail
   go_ret;exact⟨⟨_,rfl,HP.o⟩,HB.o⟩
  |succ k=>
   have hn0:(0:Int)<((k+1:Nat):Int):=by omega
   have HCd:=hZ (qIB w wr b (.slice va len vc) zs len j HG.o (by omega));have hjn:=qIy (qAw zs len) j;obtain⟨d,hd⟩:=eX (qBi (pkN zs len) j);obtain⟨j2,hj2⟩:=eX (qBh (pkN zs len) j);rw[hd,hj2]at HCd;rw[hj2]at hjn;have HT:Hid (qA0 (pkN zs len) (k+1) j=d::qA0 (pkN zs len) k j2):=hZ (by rw[qA0,hd,hj2]);clear hd hj2
   go_wp2_with fail
   refine HCd.o.mono ?_;rintro e w3 ⟨⟨y,rfl,hy⟩,hg,ho⟩;have hk3:=HG.o.kpx ho;have HG3:=hZ hg;have HO3:=hZ (qBJ HO.o hk3 (by decide));have HV3:=hZ (HV.o.kp hk3 (by decide) (by decide) (by decide));have HD3:Hid (qF4 74 30 w3 (dcC d y) d):=hZ ⟨y,rfl,hy⟩;have hS3:b+1<=w3.heap.size:=Nat.le_trans HS.o ho.size;have hon:=qFl (e:=74) (et:=30) (w:=w3) (d:=d) (y:=y) hy;have hsz:(dcC d y).length=17:=rfl;have hfold:List.foldl (fun(cs:Array Value) x=>cs.setIfInBounds x.snd x.fst) #[Value.int IntKind.i64 0,Value.string { data:=#[] },Value.int IntKind.i64 0,Value.bool false,Value.bool false,Value.bool false,Value.int IntKind.i64 0,Value.int IntKind.i64 0,Value.int IntKind.i64 0,Value.int IntKind.i64 0,Value.int IntKind.i64 0,Value.int IntKind.i64 0,Value.slice none 0 0,Value.slice none 0 0,Value.slice none 0 0,Value.slice none 0 0,Value.slice none 0 0] (dcC d y).zipIdx=(dcC d y).toArray:=qFi (dcC d y) [] [Value.int IntKind.i64 0,Value.string { data:=#[] },Value.int IntKind.i64 0,Value.bool false,Value.bool false,Value.bool false,Value.int IntKind.i64 0,Value.int IntKind.i64 0,Value.int IntKind.i64 0,Value.int IntKind.i64 0,Value.int IntKind.i64 0,Value.int IntKind.i64 0,Value.slice none 0 0,Value.slice none 0 0,Value.slice none 0 0,Value.slice none 0 0,Value.slice none 0 0] hsz.symm;obtain⟨cs,hcs⟩:=eX (dcC d y);rw[hcs]at HD3 hon hsz hfold ⊢;have hac:ds.length<=6:=by omega
   clear hcs hy hg ho hk3 HO HV HG HS HCd
   go_wp2_with (at_builtin;refine qA5 (W0:=w3) qGy rfl _ _ rfl cs 34 _ _ _ rfl rfl hsz hon HO3.o (Below.refl _ _) hS3 (by omega) (by omega) ?_)
   intro g6 cap6 w6 HO6 HB6 HW6 hcap6 hat6;have HK6:=hZ (KpX.own (X:=[34]) HO3.o HW6.o (by simp));have HV6:=hZ ((HV3.o.kp HK6.o (by decide) (by decide) (by decide)).snoc (HD3.o.kp HK6.o (by decide) (by decide) (by decide)));have HG6:=hZ (HG3.o.behind (B:=b+1) (by omega) (by omega) HB6.o);have HS6:Hid (b+1<=w6.heap.size):=hZ (Nat.le_trans hS3 HB6.o.size);have HQ6:Hid ((ds++[d])++qA0 (pkN zs len) k j2=qA0 (pkN zs len) c 1):=hZ (by rw[List.append_assoc,<-HQ.o,HT.o];rfl);have hal2:ds.length+1=(ds++[d]).length:=by simp
   have hfl:css.flatten++cs=(css++[cs]).flatten:=by simp
   have hal3:(ds++[d]).length+k=c:=by simp;omega
   rw[hal2,hfl]at HO6;rw[hal2];obtain⟨ds',hds'⟩:∃x,ds++[d]=x:=⟨_,rfl⟩;obtain⟨css',hcss'⟩:∃x,css++[cs]=x:=⟨_,rfl⟩;rw[hds']at HO6 HV6 HQ6 hal3 ⊢;rw[hcss']at HO6 HV6;clear hds' hcss' hal2 hfl hfold hon hsz HO3 HV3 HG3 HD3 HB6 HW6 HK6 hcap6 hat6 HQ HT hac
   go_wp2_with fail
   go_roundw
   case rel=>exact⟨k,j2,ds',css',by omega,by go_num,by omega,hal3,HO6,HV6,HQ6,HG6,HS6⟩
   case measure=>simp[intOf]
end Go.Proofs.YtpmnbcdjoomgcaaDoor
