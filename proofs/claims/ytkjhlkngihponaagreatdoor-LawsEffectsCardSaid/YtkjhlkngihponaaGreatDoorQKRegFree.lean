/- A region that draws its order: operations that may come up in any order are met once each, by a relation on what has come up. -/
import Derived.Test.YtkjhlkngihponaaGreatDoorQKLRow
import Derived.Test.YtkjhlkngihponaaGreatDoorQKLBez
import Derived.Test.YtkjhlkngihponaaGreatDoorQKWDivide
set_option linter.unusedVariables false
set_option linter.unusedSimpArgs false
set_option maxHeartbeats 8000000
set_option maxRecDepth 100000
namespace Go.Proofs.YtkjhlkngihponaaGreatDoor
open Go.RowKit
theorem qQZ(w:World){sa sb sc sd:Bool}{pa pb pc pd:Option Addr}{na nb nc nd ca cb cc cd:Nat}{a b c d:Int}(ha:qAr w (.agg #[.bool sa,.slice pa na ca]) a)(hb:qAr w (.agg #[.bool sb,.slice pb nb cb]) b)(hc:qAr w (.agg #[.bool sc,.slice pc nc cc]) c)(hd:qAr w (.agg #[.bool sd,.slice pd nd cd]) d)(n:Nat)(hn:w.heap.size=n):
 ∃W,((((w.alloc (.cells #[.bool sa,.slice pa na ca] 73)).alloc (.cells #[.bool sb,.slice pb nb cb] 73)).alloc (.cells #[.bool sc,.slice pc nc cc] 73)).alloc (.cells #[.bool sd,.slice pd nd cd] 73))=W/\
  Bx W n a/\Bx W (n+1) b/\Bx W (n+1+1) c/\Bx W (n+1+1+1) d/\Below w.heap.size w W/\W.heap.size=n+1+1+1+1:=by
 subst hn;have B1:∀(w:World) o,Below w.heap.size w (w.alloc o):=fun w o=>(Below.refl _ _).alloc (Nat.le_refl _) o;refine⟨_,rfl,(((Bx.new ha).blw (B1 _ _)).blw (B1 _ _)).blw (B1 _ _),?_,?_,?_,((aR.alloc (by simp) _).alloc (by simp;omega) _).alloc (by simp;omega) _,by simp⟩
 ·have:=((Bx.new (hb.blw (B1 w (.cells #[.bool sa,.slice pa na ca] 73)))).blw (B1 _ (.cells #[.bool sc,.slice pc nc cc] 73))).blw (B1 _ (.cells #[.bool sd,.slice pd nd cd] 73))
  rwa [World.size_alloc]at this
 ·have:=(Bx.new ((hc.blw (B1 w (.cells #[.bool sa,.slice pa na ca] 73))).blw (B1 _ (.cells #[.bool sb,.slice pb nb cb] 73)))).blw (B1 _ (.cells #[.bool sd,.slice pd nd cd] 73))
  rwa [World.size_alloc,World.size_alloc]at this
 ·have:=Bx.new (((hd.blw (B1 w (.cells #[.bool sa,.slice pa na ca] 73))).blw (B1 _ (.cells #[.bool sb,.slice pb nb cb] 73))).blw (B1 _ (.cells #[.bool sc,.slice pc nc cc] 73)))
  rwa [World.size_alloc,World.size_alloc,World.size_alloc]at this
theorem qGk(w0:World)(g ga br ba bm n c1 c2 k:Nat)(rs as_:List Int)(va vb vc vd:Value)(a b c d m:Int)(hr:qAC w0 g rs)(hga:qAC w0 ga as_)(hkr:k<rs.length)(hka:k<as_.length)(x y:Int)(hx:rs[k]=x)(hy:as_[k]=y)(hn:n<=1000)(hk:k<n)(hc1:n<=c1)(hc1':c1<=9223372036854775807)(hc2:n<=c2)(hc2':c2<=9223372036854775807)
 (or_:One w0 br 77 (.slice (some ⟨g,0,none⟩) n c1))(oa:One w0 ba 77 (.slice (some ⟨ga,0,none⟩) n c2))(fm:Bx w0 bm m)(hm:m≠0)(hne:g≠ga/\br≠g/\br≠ga/\ba≠g/\ba≠ga/\bm≠g/\bm≠ga)
 (ha:qAr w0 va a)(hb:qAr w0 vb b)(hc:qAr w0 vc c)(hd:qAr w0 vd d)(sa:Sz 4100 a)(sb:Sz 4100 b)(sc:Sz 4100 c)(sd:Sz 4100 d)(sm:Sz 4100 m)(sx:Sz 4100 x)(sy:Sz 4100 y):
 Calls Tryz.prog 203 #[.int .i64 k,va,vb,vc,vd,.pointer (some ⟨br,0,none⟩),.pointer (some ⟨ba,0,none⟩),.pointer (some ⟨bm,0,none⟩)] w0 fun e w'=>(∃v,e=.returned v)/\qAC w' g (rs.set k ((a*x+b*y)%m))/\qAC w' ga (as_.set k ((c*x+d*y)%m))/\qAc (fun b=>b=g\/b=ga) w0 w':=by
 obtain⟨s1,a1,n1,d1,rfl⟩:=ha.form4;obtain⟨s2,a2,n2,d2,rfl⟩:=hb.form4;obtain⟨s3,a3,n3,d3,rfl⟩:=hc.form4;obtain⟨s4,a4,n4,d4,rfl⟩:=hd.form4;obtain⟨n0,hn0⟩:=eX w0.heap.size;have Hn0:=hZ hn0;obtain⟨w1,hW,fa,fb,fc,fd,hB,hs⟩:=qQZ w0 ha hb hc hd n0 hn0;have hlt:=And.intro hr.lt (And.intro hga.lt (And.intro or_.lt (And.intro oa.lt fm.lt)));rw[hn0]at hlt;have Hlt:=hZ hlt;have Rr:=hZ (hr.blw hB);have Ra:=hZ (hga.blw hB);have Oq:=hZ (or_.blw hB);have Oa:=hZ (oa.blw hB);have Fm:=hZ (fm.blw hB);have F1:=hZ fa;have F2:=hZ fb;have F3:=hZ fc;have F4:=hZ fd;have HO:=hZ (qAc.of_below (S:=fun b=>b=g\/b=ga) hB);have Hne:=hZ hne;have Hkr:Hid (k<rs.length):=hZ hkr;have Hka:Hid (k<as_.length):=hZ hka;have Sa:=hZ sa;have Sb:=hZ sb;have Sc:=hZ sc;have Sd:=hZ sd;have Sm:=hZ sm;have Sx:=hZ sx;have Sy:=hZ sy;have i1:(0:Int)<=(k:Int):=by omega
 have i2:(k:Int)<(n:Int):=by omega
 have Hsz:Hid (w1.heap.size=n0+1+1+1+1):=hZ hs;clear hr hga or_ oa fm ha hb hc hd sa sb sc sd sm sx sy fa fb fc fd hB hne hlt hs;have Hx:Hid (rs[k]'Hkr.o=x):=hZ hx;have Hy:Hid (as_[k]'Hka.o=y):=hZ hy;clear hx hy
 go_enter Tryz.func203,Tryz.ntmps203
 go_wp2_with fail
 clear hW;refine qEw (fun t ds a w'=>∃v15 v16 v17 v18 v19 v20 v21 v22 bx by_,a=⟨(((((((((t.setIfInBounds 13 (.pointer (some ⟨bx,0,none⟩))).setIfInBounds 14 (.pointer (some ⟨by_,0,none⟩))).setIfInBounds 15 v15).setIfInBounds 16 v16).setIfInBounds 17 v17).setIfInBounds 18 v18).setIfInBounds 19 v19).setIfInBounds 20 v20).setIfInBounds 21 v21).setIfInBounds 22 v22,ds⟩/\Hid (Bx w' bx x)/\Hid (Bx w' by_ y)/\Hid (Below w1.heap.size w1 w')/\Hid (bx≠by_/\w1.heap.size<=bx/\w1.heap.size<=by_)) ?_ ?_
 ·skip
  have HJ:=hZ (Below.refl w1.heap.size w1);obtain⟨w2,hwd⟩:=eX w1.drew;have hB:=dB hwd;replace Rr:=Rr.b hB;replace Ra:=Ra.b hB;replace Oq:=Oq.b hB;replace Oa:=Oa.b hB;replace Fm:=Fm.b hB;replace F1:=F1.b hB;replace F2:=F2.b hB;replace F3:=F3.b hB;replace F4:=F4.b hB;replace HJ:=bT HJ hB;clear hB;have HBr:Hid (qAc (fun b=>w2.heap.size<=b) w2 w2):=hZ (qAc.refl _ _);refine qAU [11] (fun w'=>qAc (fun b=>w2.heap.size<=b) w2 w') (by kernel_rfl) (by rw[hwd];exact qAc.refl _ _) (fun hHeld=> ?_);rw[hwd]at hHeld ⊢;clear hwd;have HJs:Hid (w1.heap.size<=w2.heap.size):=hZ HJ.o.size;have Hall:Hid (g<w2.heap.size/\ga<w2.heap.size/\br<w2.heap.size/\ba<w2.heap.size/\bm<w2.heap.size/\n0+1+1+1<w2.heap.size):=hZ ⟨Rr.o.lt,Ra.o.lt,Oq.o.lt,Oa.o.lt,Fm.o.lt,F4.o.lt⟩;obtain⟨s_x,a_x,n_x,c_x,d0x,d1x,h_x⟩:=Rr.o.get k Hkr.o;rw[Hx.o]at h_x;have Vx:=hZ h_x;clear h_x;obtain⟨s_y,a_y,n_y,c_y,d0y,d1y,h_y⟩:=Ra.o.get k Hka.o;rw[Hy.o]at h_y;have Vy:=hZ h_y;clear h_y;have dor:=Oq.o.cell;have doa:=Oa.o.cell;refine tU 0 15 (cT (Nat.not_le_of_lt Oq.o.lt) dor Oq.o.lt) ?_;refine pU 1 16 ?_;refine pU 2 17 ?_;refine tV 3 18 (cT (Nat.not_le_of_lt Rr.o.lt) d0x Rr.o.lt) (cT (Nat.not_le_of_lt Rr.o.lt) d1x Rr.o.lt) ?_;refine tU 4 19 (cT (Nat.not_le_of_lt Oa.o.lt) doa Oa.o.lt) ?_;refine pU 5 20 ?_;refine pU 6 21 ?_;refine tV 7 22 (cT (Nat.not_le_of_lt Ra.o.lt) d0y Ra.o.lt) (cT (Nat.not_le_of_lt Ra.o.lt) d1y Ra.o.lt) ?_;clear dor doa d0x d1x d0y d1y;refine qRG [8,9] (by kernel_rfl) (by simp) ⟨qFp 8 rfl (fun K hK=> ?_),qFp 9 rfl (fun K hK=> ?_),trivial⟩
  ·skip
   go_simp;obtain⟨w3,hw⟩:=eX (w2.alloc (.cells #[.bool false,.slice none 0 0] 73));have hB:=aB hw;obtain⟨bx,hb⟩:=eX w2.heap.size;have Fx':Hid (Bx w3 bx 0):=hZ (by rw[<-hw,<-hb];exact Bx.new (qAJ _));have hge_bx:w2.heap.size<=bx:=by rw[<-hb];exact HBr.o.size
   replace HBr:=oT HBr hB;replace Rr:=Rr.b hB;replace Ra:=Ra.b hB;replace Oq:=Oq.b hB;replace Oa:=Oa.b hB;replace Fm:=Fm.b hB;replace F1:=F1.b hB;replace F2:=F2.b hB;replace F3:=F3.b hB;replace F4:=F4.b hB;replace Vx:=Vx.b hB;replace Vy:=Vy.b hB;replace HJ:=bT HJ hB;clear hB;have Fx:=Fx';clear Fx';rw[hw]
   try rw[hb]
   clear hw hb;refine hK.out _ _ HBr.o (fun hHeld=> ?_);clear hK K
   try simp only[Act.put,sX1,sX2,sX3]
   refine eU 9 fun K hK=> ?_;go_simp;obtain⟨w4,hw⟩:=eX (w3.alloc (.cells #[.bool false,.slice none 0 0] 73));have hB:=aB hw;obtain⟨by_,hb⟩:=eX w3.heap.size;have Fy':Hid (Bx w4 by_ 0):=hZ (by rw[<-hw,<-hb];exact Bx.new (qAJ _));have hge_by_:w2.heap.size<=by_:=by rw[<-hb];exact HBr.o.size
   have hne_bx_by_:bx<by_:=by rw[<-hb];exact Fx.o.lt
   replace HBr:=oT HBr hB;replace Rr:=Rr.b hB;replace Ra:=Ra.b hB;replace Oq:=Oq.b hB;replace Oa:=Oa.b hB;replace Fm:=Fm.b hB;replace F1:=F1.b hB;replace F2:=F2.b hB;replace F3:=F3.b hB;replace F4:=F4.b hB;replace Vx:=Vx.b hB;replace Vy:=Vy.b hB;replace Fx:=Fx.b hB;replace HJ:=bT HJ hB;clear hB;have Fy:=Fy';clear Fy';rw[hw]
   try rw[hb]
   clear hw hb;refine hK.out _ _ HBr.o (fun hHeld=> ?_);clear hK K
   try simp only[Act.put,sX1,sX2,sX3]
   obtain⟨s_9,a_9,n_9,c_9,t_9,-⟩:=Fx.o;have e0:=t_9.cell0;have e1:=t_9.cell1;have e2:=t_9.frozen 0;have e3:=t_9.frozen 1;clear t_9;have hn9:qAi w4 (bx):=Fx.o.noInt;obtain⟨w5,hw⟩:=eX ((w4.setCell ⟨bx,0,none⟩ (.bool s_x)).setCell ⟨bx,1,none⟩ (.slice a_x n_x c_x));have hw2:st2 w4 (bx) (0) (1) s_x a_x n_x c_x=w5:=hw;replace Fx:=hZ (Bx.put Fx.o Vx.o);rw[hw2]at Fx;replace Rr:=hZ (Rr.o.offe hw2 hn9 (by have:=Hall.o;omega));replace Ra:=hZ (Ra.o.offe hw2 hn9 (by have:=Hall.o;omega));replace Oq:=hZ (Oq.o.offe hw2 (by have:=Hall.o;omega));replace Oa:=hZ (Oa.o.offe hw2 (by have:=Hall.o;omega));replace Fm:=hZ (Fm.o.offe hw2 hn9 (by have:=Hall.o;omega));replace F1:=hZ (F1.o.offe hw2 hn9 (by have:=Hall.o;omega));replace F2:=hZ (F2.o.offe hw2 hn9 (by have:=Hall.o;omega));replace F3:=hZ (F3.o.offe hw2 hn9 (by have:=Hall.o;omega));replace F4:=hZ (F4.o.offe hw2 hn9 (by have:=Hall.o;omega));replace Vx:=hZ (Vx.o.offe hw2 hn9);replace Vy:=hZ (Vy.o.offe hw2 hn9);replace Fy:=hZ (Fy.o.offe hw2 hn9 (by have:=Hall.o;omega));replace HJ:=hZ (bO hw2 HJ.o (by have:=HJs.o;omega));clear hw2 hn9;replace HBr:=hZ (HBr.o.offs hw hge_bx);refine eU 10 fun K hK=> ?_;go_simp
   try rw[hw]
   refine hK.out _ _ HBr.o (fun hHeld=> ?_);clear hK K
   try simp only[Act.put,sX1,sX2,sX3]
   clear hw e0 e1 e2 e3;obtain⟨s_9,a_9,n_9,c_9,t_9,-⟩:=Fy.o;have e0:=t_9.cell0;have e1:=t_9.cell1;have e2:=t_9.frozen 0;have e3:=t_9.frozen 1;clear t_9;have hn9:qAi w5 (by_):=Fy.o.noInt;obtain⟨w6,hw⟩:=eX ((w5.setCell ⟨by_,0,none⟩ (.bool s_y)).setCell ⟨by_,1,none⟩ (.slice a_y n_y c_y));have hw2:st2 w5 (by_) (0) (1) s_y a_y n_y c_y=w6:=hw;replace Fy:=hZ (Bx.put Fy.o Vy.o);rw[hw2]at Fy;replace Rr:=hZ (Rr.o.offe hw2 hn9 (by have:=Hall.o;omega));replace Ra:=hZ (Ra.o.offe hw2 hn9 (by have:=Hall.o;omega));replace Oq:=hZ (Oq.o.offe hw2 (by have:=Hall.o;omega));replace Oa:=hZ (Oa.o.offe hw2 (by have:=Hall.o;omega));replace Fm:=hZ (Fm.o.offe hw2 hn9 (by have:=Hall.o;omega));replace F1:=hZ (F1.o.offe hw2 hn9 (by have:=Hall.o;omega));replace F2:=hZ (F2.o.offe hw2 hn9 (by have:=Hall.o;omega));replace F3:=hZ (F3.o.offe hw2 hn9 (by have:=Hall.o;omega));replace F4:=hZ (F4.o.offe hw2 hn9 (by have:=Hall.o;omega));replace Vx:=hZ (Vx.o.offe hw2 hn9);replace Vy:=hZ (Vy.o.offe hw2 hn9);replace Fx:=hZ (Fx.o.offe hw2 hn9 (by have:=Hall.o;omega));replace HJ:=hZ (bO hw2 HJ.o (by have:=HJs.o;omega));clear hw2 hn9;refine lU 11 fun K hK=> ?_;go_simp
   try rw[hw]
   refine hK.out _ _ ?_;clear hK K
   try simp only[Act.put,sX1,sX2,sX3]
   clear hw e0 e1 e2 e3;refine dU ?_;clear hHeld;refine qA0 ⟨_,_,_,_,_,_,_,_,_,_,by first|rfl|(simp only[sX1,sX2,sX3];rfl),Fx,Fy,HJ,hZ (by have:=HJs.o;omega)⟩
  ·skip
   go_simp;obtain⟨w3,hw⟩:=eX (w2.alloc (.cells #[.bool false,.slice none 0 0] 73));have hB:=aB hw;obtain⟨by_,hb⟩:=eX w2.heap.size;have Fy':Hid (Bx w3 by_ 0):=hZ (by rw[<-hw,<-hb];exact Bx.new (qAJ _));have hge_by_:w2.heap.size<=by_:=by rw[<-hb];exact HBr.o.size
   replace HBr:=oT HBr hB;replace Rr:=Rr.b hB;replace Ra:=Ra.b hB;replace Oq:=Oq.b hB;replace Oa:=Oa.b hB;replace Fm:=Fm.b hB;replace F1:=F1.b hB;replace F2:=F2.b hB;replace F3:=F3.b hB;replace F4:=F4.b hB;replace Vx:=Vx.b hB;replace Vy:=Vy.b hB;replace HJ:=bT HJ hB;clear hB;have Fy:=Fy';clear Fy';rw[hw]
   try rw[hb]
   clear hw hb;refine hK.out _ _ HBr.o (fun hHeld=> ?_);clear hK K
   try simp only[Act.put,sX1,sX2,sX3]
   refine eU 8 fun K hK=> ?_;go_simp;obtain⟨w4,hw⟩:=eX (w3.alloc (.cells #[.bool false,.slice none 0 0] 73));have hB:=aB hw;obtain⟨bx,hb⟩:=eX w3.heap.size;have Fx':Hid (Bx w4 bx 0):=hZ (by rw[<-hw,<-hb];exact Bx.new (qAJ _));have hge_bx:w2.heap.size<=bx:=by rw[<-hb];exact HBr.o.size
   have hne_by__bx:by_<bx:=by rw[<-hb];exact Fy.o.lt
   replace HBr:=oT HBr hB;replace Rr:=Rr.b hB;replace Ra:=Ra.b hB;replace Oq:=Oq.b hB;replace Oa:=Oa.b hB;replace Fm:=Fm.b hB;replace F1:=F1.b hB;replace F2:=F2.b hB;replace F3:=F3.b hB;replace F4:=F4.b hB;replace Vx:=Vx.b hB;replace Vy:=Vy.b hB;replace Fy:=Fy.b hB;replace HJ:=bT HJ hB;clear hB;have Fx:=Fx';clear Fx';rw[hw]
   try rw[hb]
   clear hw hb;refine hK.out _ _ HBr.o (fun hHeld=> ?_);clear hK K
   try simp only[Act.put,sX1,sX2,sX3]
   obtain⟨s_9,a_9,n_9,c_9,t_9,-⟩:=Fx.o;have e0:=t_9.cell0;have e1:=t_9.cell1;have e2:=t_9.frozen 0;have e3:=t_9.frozen 1;clear t_9;have hn9:qAi w4 (bx):=Fx.o.noInt;obtain⟨w5,hw⟩:=eX ((w4.setCell ⟨bx,0,none⟩ (.bool s_x)).setCell ⟨bx,1,none⟩ (.slice a_x n_x c_x));have hw2:st2 w4 (bx) (0) (1) s_x a_x n_x c_x=w5:=hw;replace Fx:=hZ (Bx.put Fx.o Vx.o);rw[hw2]at Fx;replace Rr:=hZ (Rr.o.offe hw2 hn9 (by have:=Hall.o;omega));replace Ra:=hZ (Ra.o.offe hw2 hn9 (by have:=Hall.o;omega));replace Oq:=hZ (Oq.o.offe hw2 (by have:=Hall.o;omega));replace Oa:=hZ (Oa.o.offe hw2 (by have:=Hall.o;omega));replace Fm:=hZ (Fm.o.offe hw2 hn9 (by have:=Hall.o;omega));replace F1:=hZ (F1.o.offe hw2 hn9 (by have:=Hall.o;omega));replace F2:=hZ (F2.o.offe hw2 hn9 (by have:=Hall.o;omega));replace F3:=hZ (F3.o.offe hw2 hn9 (by have:=Hall.o;omega));replace F4:=hZ (F4.o.offe hw2 hn9 (by have:=Hall.o;omega));replace Vx:=hZ (Vx.o.offe hw2 hn9);replace Vy:=hZ (Vy.o.offe hw2 hn9);replace Fy:=hZ (Fy.o.offe hw2 hn9 (by have:=Hall.o;omega));replace HJ:=hZ (bO hw2 HJ.o (by have:=HJs.o;omega));clear hw2 hn9;replace HBr:=hZ (HBr.o.offs hw hge_bx);refine eU 10 fun K hK=> ?_;go_simp
   try rw[hw]
   refine hK.out _ _ HBr.o (fun hHeld=> ?_);clear hK K
   try simp only[Act.put,sX1,sX2,sX3]
   clear hw e0 e1 e2 e3;obtain⟨s_9,a_9,n_9,c_9,t_9,-⟩:=Fy.o;have e0:=t_9.cell0;have e1:=t_9.cell1;have e2:=t_9.frozen 0;have e3:=t_9.frozen 1;clear t_9;have hn9:qAi w5 (by_):=Fy.o.noInt;obtain⟨w6,hw⟩:=eX ((w5.setCell ⟨by_,0,none⟩ (.bool s_y)).setCell ⟨by_,1,none⟩ (.slice a_y n_y c_y));have hw2:st2 w5 (by_) (0) (1) s_y a_y n_y c_y=w6:=hw;replace Fy:=hZ (Bx.put Fy.o Vy.o);rw[hw2]at Fy;replace Rr:=hZ (Rr.o.offe hw2 hn9 (by have:=Hall.o;omega));replace Ra:=hZ (Ra.o.offe hw2 hn9 (by have:=Hall.o;omega));replace Oq:=hZ (Oq.o.offe hw2 (by have:=Hall.o;omega));replace Oa:=hZ (Oa.o.offe hw2 (by have:=Hall.o;omega));replace Fm:=hZ (Fm.o.offe hw2 hn9 (by have:=Hall.o;omega));replace F1:=hZ (F1.o.offe hw2 hn9 (by have:=Hall.o;omega));replace F2:=hZ (F2.o.offe hw2 hn9 (by have:=Hall.o;omega));replace F3:=hZ (F3.o.offe hw2 hn9 (by have:=Hall.o;omega));replace F4:=hZ (F4.o.offe hw2 hn9 (by have:=Hall.o;omega));replace Vx:=hZ (Vx.o.offe hw2 hn9);replace Vy:=hZ (Vy.o.offe hw2 hn9);replace Fx:=hZ (Fx.o.offe hw2 hn9 (by have:=Hall.o;omega));replace HJ:=hZ (bO hw2 HJ.o (by have:=HJs.o;omega));clear hw2 hn9;refine lU 11 fun K hK=> ?_;go_simp
   try rw[hw]
   refine hK.out _ _ ?_;clear hK K
   try simp only[Act.put,sX1,sX2,sX3]
   clear hw e0 e1 e2 e3;refine dU ?_;clear hHeld;refine qA0 ⟨_,_,_,_,_,_,_,_,_,_,by first|rfl|(simp only[sX1,sX2,sX3];rfl),Fx,Fy,HJ,hZ (by have:=HJs.o;omega)⟩
 ·skip
  rintro a w2 ⟨v15,v16,v17,v18,v19,v20,v21,v22,bx,by_,rfl,Fx,Fy,HJ,Hxy⟩;simp only[sX1,sX2,sX3];have hB:=HJ.o;clear HJ;replace Rr:=Rr.b hB;replace Ra:=Ra.b hB;replace Oq:=Oq.b hB;replace Oa:=Oa.b hB;replace Fm:=Fm.b hB;replace F1:=F1.b hB;replace F2:=F2.b hB;replace F3:=F3.b hB;replace F4:=F4.b hB;replace HO:=HO.b hB;clear hB;have Hd:Hid (n0<=bx/\n0<=by_/\bx≠by_):=hZ (by have:=Hxy.o;have:=Hsz.o;omega);clear Hxy
  go_wp2_with fail
  obtain⟨w3,hwd⟩:=eX w2.drew;have hB:=dB hwd;replace Rr:=Rr.b hB;replace Ra:=Ra.b hB;replace Oq:=Oq.b hB;replace Oa:=Oa.b hB;replace Fm:=Fm.b hB;replace F1:=F1.b hB;replace F2:=F2.b hB;replace F3:=F3.b hB;replace F4:=F4.b hB;replace Fx:=Fx.b hB;replace Fy:=Fy.b hB;replace HO:=HO.b hB;clear hB;have HBr:Hid (qAc (fun b=>False) w3 w3):=hZ (qAc.refl _ _);refine qAU [12] (fun w'=>qAc (fun b=>False) w3 w') (by kernel_rfl) (by rw[hwd];exact qAc.refl _ _) (fun hHeld=> ?_);rw[hwd]at hHeld ⊢;clear hwd;have dor:=Oq.o.cell;obtain⟨s_p,a_p,n_p,c_p,t_p,h_p⟩:=F1.o;have d0p:=t_p.cell0;have d1p:=t_p.cell1;have Vp:=hZ h_p;clear t_p h_p;obtain⟨s_u,a_u,n_u,c_u,t_u,h_u⟩:=Fx.o;have d0u:=t_u.cell0;have d1u:=t_u.cell1;have Vu:=hZ h_u;clear t_u h_u;obtain⟨s_q,a_q,n_q,c_q,t_q,h_q⟩:=F2.o;have d0q:=t_q.cell0;have d1q:=t_q.cell1;have Vq:=hZ h_q;clear t_q h_q;obtain⟨s_v,a_v,n_v,c_v,t_v,h_v⟩:=Fy.o;have d0v:=t_v.cell0;have d1v:=t_v.cell1;have Vv:=hZ h_v;clear t_v h_v;obtain⟨s_m,a_m,n_m,c_m,t_m,h_m⟩:=Fm.o;have d0m:=t_m.cell0;have d1m:=t_m.cell1;have Vm:=hZ h_m;clear t_m h_m;refine tU 0 23 (cF dor Oq.o.lt) ?_;refine pU 1 24 ?_;refine tV 2 25 (cF d0p F1.o.lt) (cF d1p F1.o.lt) ?_;refine tV 3 26 (cF d0u Fx.o.lt) (cF d1u Fx.o.lt) ?_;refine tV 5 28 (cF d0q F2.o.lt) (cF d1q F2.o.lt) ?_;refine tV 6 29 (cF d0v Fy.o.lt) (cF d1v Fy.o.lt) ?_;refine tV 9 32 (cF d0m Fm.o.lt) (cF d1m Fm.o.lt) ?_;clear d0p d1p d0u d1u d0q d1q d0v d1v d0m d1m;clear dor;refine eU 4 fun K hK=> ?_;go_simp;refine(qBH (w:=w3) Vp.o Vu.o Sa.o Sx.o (by omega)).mono ?_;rintro e w4 ⟨s_r,a_r,n_r,c_r,rfl,h_r,hB⟩;have Vr:=hZ h_r;replace HBr:=oT HBr hB;replace Rr:=Rr.b hB;replace Ra:=Ra.b hB;replace Oq:=Oq.b hB;replace Oa:=Oa.b hB;replace Fm:=Fm.b hB;replace F1:=F1.b hB;replace F2:=F2.b hB;replace F3:=F3.b hB;replace F4:=F4.b hB;replace Fx:=Fx.b hB;replace Fy:=Fy.b hB;replace Vp:=Vp.b hB;replace Vu:=Vu.b hB;replace Vq:=Vq.b hB;replace Vv:=Vv.b hB;replace Vm:=Vm.b hB;replace HO:=HO.b hB;clear hB;clear h_r;refine hK.out _ _ HBr.o (fun hHeld=> ?_);clear hK K
  try simp only[Act.put,sX1,sX2,sX3]
  refine eU 7 fun K hK=> ?_;go_simp;refine(qBH (w:=w4) Vq.o Vv.o Sb.o Sy.o (by omega)).mono ?_;rintro e w5 ⟨s_s,a_s,n_s,c_s,rfl,h_s,hB⟩;have Vs:=hZ h_s;replace HBr:=oT HBr hB;replace Rr:=Rr.b hB;replace Ra:=Ra.b hB;replace Oq:=Oq.b hB;replace Oa:=Oa.b hB;replace Fm:=Fm.b hB;replace F1:=F1.b hB;replace F2:=F2.b hB;replace F3:=F3.b hB;replace F4:=F4.b hB;replace Fx:=Fx.b hB;replace Fy:=Fy.b hB;replace Vp:=Vp.b hB;replace Vu:=Vu.b hB;replace Vq:=Vq.b hB;replace Vv:=Vv.b hB;replace Vm:=Vm.b hB;replace Vr:=Vr.b hB;replace HO:=HO.b hB;clear hB;clear h_s;refine hK.out _ _ HBr.o (fun hHeld=> ?_);clear hK K
  try simp only[Act.put,sX1,sX2,sX3]
  refine eU 8 fun K hK=> ?_;go_simp;refine(qMS (w:=w5) (k:=8200) Vr.o Vs.o (Sa.o.mul Sx.o) (Sb.o.mul Sy.o) (by omega)).mono ?_;rintro e w6 ⟨s_t,a_t,n_t,c_t,rfl,h_t,hB⟩;have Vt:=hZ h_t;replace HBr:=oT HBr hB;replace Rr:=Rr.b hB;replace Ra:=Ra.b hB;replace Oq:=Oq.b hB;replace Oa:=Oa.b hB;replace Fm:=Fm.b hB;replace F1:=F1.b hB;replace F2:=F2.b hB;replace F3:=F3.b hB;replace F4:=F4.b hB;replace Fx:=Fx.b hB;replace Fy:=Fy.b hB;replace Vp:=Vp.b hB;replace Vu:=Vu.b hB;replace Vq:=Vq.b hB;replace Vv:=Vv.b hB;replace Vm:=Vm.b hB;replace Vr:=Vr.b hB;replace Vs:=Vs.b hB;replace HO:=HO.b hB;clear hB;clear h_t;refine hK.out _ _ HBr.o (fun hHeld=> ?_);clear hK K
  try simp only[Act.put,sX1,sX2,sX3]
  refine eU 10 fun K hK=> ?_;go_simp;refine(qEe (w:=w6) (k:=8201) (l:=4100) Vt.o Vm.o ((Sa.o.mul Sx.o).add (Sb.o.mul Sy.o)) Sm.o hm (by omega) (by omega)).mono ?_;rintro e w7 ⟨s_z,a_z,n_z,c_z,rfl,h_z,hB⟩;have Vz:=hZ h_z;replace HBr:=oT HBr hB;replace Rr:=Rr.b hB;replace Ra:=Ra.b hB;replace Oq:=Oq.b hB;replace Oa:=Oa.b hB;replace Fm:=Fm.b hB;replace F1:=F1.b hB;replace F2:=F2.b hB;replace F3:=F3.b hB;replace F4:=F4.b hB;replace Fx:=Fx.b hB;replace Fy:=Fy.b hB;replace Vp:=Vp.b hB;replace Vu:=Vu.b hB;replace Vq:=Vq.b hB;replace Vv:=Vv.b hB;replace Vm:=Vm.b hB;replace Vr:=Vr.b hB;replace Vs:=Vs.b hB;replace Vt:=Vt.b hB;replace HO:=HO.b hB;clear hB;clear h_z;refine hK.out _ _ HBr.o (fun hHeld=> ?_);clear hK K
  try simp only[Act.put,sX1,sX2,sX3]
  refine pU 11 34 ?_;obtain⟨s_9,a_9,n_9,c_9,e0,e1,-⟩:=Rr.o.get (k) Hkr.o;have e2:=Rr.o.frozen (k*2);have e3:=Rr.o.frozen (k*2+1);have hn9:qAi w7 (g):=Rr.o.noInt;obtain⟨w8,hw⟩:=eX ((w7.setCell ⟨g,k*2,none⟩ (.bool s_z)).setCell ⟨g,k*2+1,none⟩ (.slice a_z n_z c_z));have hw2:st2 w7 (g) (k*2) (k*2+1) s_z a_z n_z c_z=w8:=hw;replace Rr:=hZ (qAC.put' Rr.o (k) Hkr.o Vz.o);rw[hw2]at Rr;replace Ra:=hZ (Ra.o.offe hw2 hn9 (by have:=Hne.o;have:=Hlt.o;have:=Hd.o;omega));replace Oq:=hZ (Oq.o.offe hw2 (by have:=Hne.o;have:=Hlt.o;have:=Hd.o;omega));replace Oa:=hZ (Oa.o.offe hw2 (by have:=Hne.o;have:=Hlt.o;have:=Hd.o;omega));replace Fm:=hZ (Fm.o.offe hw2 hn9 (by have:=Hne.o;have:=Hlt.o;have:=Hd.o;omega));replace F1:=hZ (F1.o.offe hw2 hn9 (by have:=Hne.o;have:=Hlt.o;have:=Hd.o;omega));replace F2:=hZ (F2.o.offe hw2 hn9 (by have:=Hne.o;have:=Hlt.o;have:=Hd.o;omega));replace F3:=hZ (F3.o.offe hw2 hn9 (by have:=Hne.o;have:=Hlt.o;have:=Hd.o;omega));replace F4:=hZ (F4.o.offe hw2 hn9 (by have:=Hne.o;have:=Hlt.o;have:=Hd.o;omega));replace Fx:=hZ (Fx.o.offe hw2 hn9 (by have:=Hne.o;have:=Hlt.o;have:=Hd.o;omega));replace Fy:=hZ (Fy.o.offe hw2 hn9 (by have:=Hne.o;have:=Hlt.o;have:=Hd.o;omega));replace Vp:=hZ (Vp.o.offe hw2 hn9);replace Vu:=hZ (Vu.o.offe hw2 hn9);replace Vq:=hZ (Vq.o.offe hw2 hn9);replace Vv:=hZ (Vv.o.offe hw2 hn9);replace Vm:=hZ (Vm.o.offe hw2 hn9);replace Vr:=hZ (Vr.o.offe hw2 hn9);replace Vs:=hZ (Vs.o.offe hw2 hn9);replace Vt:=hZ (Vt.o.offe hw2 hn9);replace Vz:=hZ (Vz.o.offe hw2 hn9);replace HO:=hZ (HO.o.offe hw2 (Or.inl (Or.inl rfl)));clear hw2 hn9;refine lU 12 fun K hK=> ?_;go_simp
  try rw[hw]
  refine hK.out _ _ ?_;clear hK K
  try simp only[Act.put,sX1,sX2,sX3]
  clear hw e0 e1 e2 e3;refine dU ?_;clear hHeld;clear Vp Vu Vq Vv Vm Vr Vs Vt Vz
  go_wp2_with fail
  obtain⟨w9,hwd⟩:=eX w8.drew;have hB:=dB hwd;replace Rr:=Rr.b hB;replace Ra:=Ra.b hB;replace Oq:=Oq.b hB;replace Oa:=Oa.b hB;replace Fm:=Fm.b hB;replace F1:=F1.b hB;replace F2:=F2.b hB;replace F3:=F3.b hB;replace F4:=F4.b hB;replace Fx:=Fx.b hB;replace Fy:=Fy.b hB;replace HO:=HO.b hB;clear hB;have HBr:Hid (qAc (fun b=>False) w9 w9):=hZ (qAc.refl _ _);refine qAU [12] (fun w'=>qAc (fun b=>False) w9 w') (by kernel_rfl) (by rw[hwd];exact qAc.refl _ _) (fun hHeld=> ?_);rw[hwd]at hHeld ⊢;clear hwd;have dor:=Oa.o.cell;obtain⟨s_p,a_p,n_p,c_p,t_p,h_p⟩:=F3.o;have d0p:=t_p.cell0;have d1p:=t_p.cell1;have Vp:=hZ h_p;clear t_p h_p;obtain⟨s_u,a_u,n_u,c_u,t_u,h_u⟩:=Fx.o;have d0u:=t_u.cell0;have d1u:=t_u.cell1;have Vu:=hZ h_u;clear t_u h_u;obtain⟨s_q,a_q,n_q,c_q,t_q,h_q⟩:=F4.o;have d0q:=t_q.cell0;have d1q:=t_q.cell1;have Vq:=hZ h_q;clear t_q h_q;obtain⟨s_v,a_v,n_v,c_v,t_v,h_v⟩:=Fy.o;have d0v:=t_v.cell0;have d1v:=t_v.cell1;have Vv:=hZ h_v;clear t_v h_v;obtain⟨s_m,a_m,n_m,c_m,t_m,h_m⟩:=Fm.o;have d0m:=t_m.cell0;have d1m:=t_m.cell1;have Vm:=hZ h_m;clear t_m h_m;refine tU 0 35 (cF dor Oa.o.lt) ?_;refine pU 1 36 ?_;refine tV 2 37 (cF d0p F3.o.lt) (cF d1p F3.o.lt) ?_;refine tV 3 38 (cF d0u Fx.o.lt) (cF d1u Fx.o.lt) ?_;refine tV 5 40 (cF d0q F4.o.lt) (cF d1q F4.o.lt) ?_;refine tV 6 41 (cF d0v Fy.o.lt) (cF d1v Fy.o.lt) ?_;refine tV 9 44 (cF d0m Fm.o.lt) (cF d1m Fm.o.lt) ?_;clear d0p d1p d0u d1u d0q d1q d0v d1v d0m d1m;clear dor;refine eU 4 fun K hK=> ?_;go_simp;refine(qBH (w:=w9) Vp.o Vu.o Sc.o Sx.o (by omega)).mono ?_;rintro e w10 ⟨s_r,a_r,n_r,c_r,rfl,h_r,hB⟩;have Vr:=hZ h_r;replace HBr:=oT HBr hB;replace Rr:=Rr.b hB;replace Ra:=Ra.b hB;replace Oq:=Oq.b hB;replace Oa:=Oa.b hB;replace Fm:=Fm.b hB;replace F1:=F1.b hB;replace F2:=F2.b hB;replace F3:=F3.b hB;replace F4:=F4.b hB;replace Fx:=Fx.b hB;replace Fy:=Fy.b hB;replace Vp:=Vp.b hB;replace Vu:=Vu.b hB;replace Vq:=Vq.b hB;replace Vv:=Vv.b hB;replace Vm:=Vm.b hB;replace HO:=HO.b hB;clear hB;clear h_r;refine hK.out _ _ HBr.o (fun hHeld=> ?_);clear hK K
  try simp only[Act.put,sX1,sX2,sX3]
  refine eU 7 fun K hK=> ?_;go_simp;refine(qBH (w:=w10) Vq.o Vv.o Sd.o Sy.o (by omega)).mono ?_;rintro e w11 ⟨s_s,a_s,n_s,c_s,rfl,h_s,hB⟩;have Vs:=hZ h_s;replace HBr:=oT HBr hB;replace Rr:=Rr.b hB;replace Ra:=Ra.b hB;replace Oq:=Oq.b hB;replace Oa:=Oa.b hB;replace Fm:=Fm.b hB;replace F1:=F1.b hB;replace F2:=F2.b hB;replace F3:=F3.b hB;replace F4:=F4.b hB;replace Fx:=Fx.b hB;replace Fy:=Fy.b hB;replace Vp:=Vp.b hB;replace Vu:=Vu.b hB;replace Vq:=Vq.b hB;replace Vv:=Vv.b hB;replace Vm:=Vm.b hB;replace Vr:=Vr.b hB;replace HO:=HO.b hB;clear hB;clear h_s;refine hK.out _ _ HBr.o (fun hHeld=> ?_);clear hK K
  try simp only[Act.put,sX1,sX2,sX3]
  refine eU 8 fun K hK=> ?_;go_simp;refine(qMS (w:=w11) (k:=8200) Vr.o Vs.o (Sc.o.mul Sx.o) (Sd.o.mul Sy.o) (by omega)).mono ?_;rintro e w12 ⟨s_t,a_t,n_t,c_t,rfl,h_t,hB⟩;have Vt:=hZ h_t;replace HBr:=oT HBr hB;replace Rr:=Rr.b hB;replace Ra:=Ra.b hB;replace Oq:=Oq.b hB;replace Oa:=Oa.b hB;replace Fm:=Fm.b hB;replace F1:=F1.b hB;replace F2:=F2.b hB;replace F3:=F3.b hB;replace F4:=F4.b hB;replace Fx:=Fx.b hB;replace Fy:=Fy.b hB;replace Vp:=Vp.b hB;replace Vu:=Vu.b hB;replace Vq:=Vq.b hB;replace Vv:=Vv.b hB;replace Vm:=Vm.b hB;replace Vr:=Vr.b hB;replace Vs:=Vs.b hB;replace HO:=HO.b hB;clear hB;clear h_t;refine hK.out _ _ HBr.o (fun hHeld=> ?_);clear hK K
  try simp only[Act.put,sX1,sX2,sX3]
  refine eU 10 fun K hK=> ?_;go_simp;refine(qEe (w:=w12) (k:=8201) (l:=4100) Vt.o Vm.o ((Sc.o.mul Sx.o).add (Sd.o.mul Sy.o)) Sm.o hm (by omega) (by omega)).mono ?_;rintro e w13 ⟨s_z,a_z,n_z,c_z,rfl,h_z,hB⟩;have Vz:=hZ h_z;replace HBr:=oT HBr hB;replace Rr:=Rr.b hB;replace Ra:=Ra.b hB;replace Oq:=Oq.b hB;replace Oa:=Oa.b hB;replace Fm:=Fm.b hB;replace F1:=F1.b hB;replace F2:=F2.b hB;replace F3:=F3.b hB;replace F4:=F4.b hB;replace Fx:=Fx.b hB;replace Fy:=Fy.b hB;replace Vp:=Vp.b hB;replace Vu:=Vu.b hB;replace Vq:=Vq.b hB;replace Vv:=Vv.b hB;replace Vm:=Vm.b hB;replace Vr:=Vr.b hB;replace Vs:=Vs.b hB;replace Vt:=Vt.b hB;replace HO:=HO.b hB;clear hB;clear h_z;refine hK.out _ _ HBr.o (fun hHeld=> ?_);clear hK K
  try simp only[Act.put,sX1,sX2,sX3]
  refine pU 11 46 ?_;obtain⟨s_9,a_9,n_9,c_9,e0,e1,-⟩:=Ra.o.get (k) Hka.o;have e2:=Ra.o.frozen (k*2);have e3:=Ra.o.frozen (k*2+1);have hn9:qAi w13 (ga):=Ra.o.noInt;obtain⟨w14,hw⟩:=eX ((w13.setCell ⟨ga,k*2,none⟩ (.bool s_z)).setCell ⟨ga,k*2+1,none⟩ (.slice a_z n_z c_z));have hw2:st2 w13 (ga) (k*2) (k*2+1) s_z a_z n_z c_z=w14:=hw;replace Ra:=hZ (qAC.put' Ra.o (k) Hka.o Vz.o);rw[hw2]at Ra;replace Rr:=hZ (Rr.o.offe hw2 hn9 (by have:=Hne.o;have:=Hlt.o;have:=Hd.o;omega));replace Oq:=hZ (Oq.o.offe hw2 (by have:=Hne.o;have:=Hlt.o;have:=Hd.o;omega));replace Oa:=hZ (Oa.o.offe hw2 (by have:=Hne.o;have:=Hlt.o;have:=Hd.o;omega));replace Fm:=hZ (Fm.o.offe hw2 hn9 (by have:=Hne.o;have:=Hlt.o;have:=Hd.o;omega));replace F1:=hZ (F1.o.offe hw2 hn9 (by have:=Hne.o;have:=Hlt.o;have:=Hd.o;omega));replace F2:=hZ (F2.o.offe hw2 hn9 (by have:=Hne.o;have:=Hlt.o;have:=Hd.o;omega));replace F3:=hZ (F3.o.offe hw2 hn9 (by have:=Hne.o;have:=Hlt.o;have:=Hd.o;omega));replace F4:=hZ (F4.o.offe hw2 hn9 (by have:=Hne.o;have:=Hlt.o;have:=Hd.o;omega));replace Fx:=hZ (Fx.o.offe hw2 hn9 (by have:=Hne.o;have:=Hlt.o;have:=Hd.o;omega));replace Fy:=hZ (Fy.o.offe hw2 hn9 (by have:=Hne.o;have:=Hlt.o;have:=Hd.o;omega));replace Vp:=hZ (Vp.o.offe hw2 hn9);replace Vu:=hZ (Vu.o.offe hw2 hn9);replace Vq:=hZ (Vq.o.offe hw2 hn9);replace Vv:=hZ (Vv.o.offe hw2 hn9);replace Vm:=hZ (Vm.o.offe hw2 hn9);replace Vr:=hZ (Vr.o.offe hw2 hn9);replace Vs:=hZ (Vs.o.offe hw2 hn9);replace Vt:=hZ (Vt.o.offe hw2 hn9);replace Vz:=hZ (Vz.o.offe hw2 hn9);replace HO:=hZ (HO.o.offe hw2 (Or.inl (Or.inr rfl)));clear hw2 hn9;refine lU 12 fun K hK=> ?_;go_simp
  try rw[hw]
  refine hK.out _ _ ?_;clear hK K
  try simp only[Act.put,sX1,sX2,sX3]
  clear hw e0 e1 e2 e3;refine dU ?_;clear hHeld;clear Vp Vu Vq Vv Vm Vr Vs Vt Vz
  go_wp2_with fail
  go_end0
  exact⟨⟨_,rfl⟩,Rr.o,Ra.o,HO.o⟩
def diag(m:Int):Nat->Nat->List Vec
 |_,0=>[]
 |j,k+1=>qCa m j::diag m (j+1) k
theorem qK2{m:Int}(hm:0<m):∀(k j n:Nat),j+k=n->qH0 m n j (diag m j k)
 |0,j,n,h=>by show j=n;omega
 |k+1,j,n,h=>by
  refine⟨by omega,fun t ht=> ?_,?_,fun t ht=> ?_,InsSpan0 _ _,qK2 hm k (j+1) n (by omega)⟩
  ·show(if t=j then m else 0)=0
   rw[if_neg (by omega)]
  ·show 0<if j=j then m else 0
   rw[if_pos rfl];exact hm
  ·show(if t=j then m else 0)=0
   rw[if_neg (by omega)]
where InsSpan0 (a:Vec) (L:List Vec):qAa (a::L) a:=qAa.mem (by simp)
theorem qHT{m:Int}:∀(k j:Nat),(diag m j k).length=k
 |0,_=>rfl
 |k+1,j=>by simp[diag,qHT k]
theorem qK3{m:Int}:∀(k j:Nat) (v:Vec),v∈diag m j k->∃t,j<=t/\t<j+k/\v=qCa m t
 |0,j,v,h=>by simp[diag]at h
 |k+1,j,v,h=>by
  rcases List.mem_cons.1 h with rfl|h
  ·exact⟨j,by omega,by omega,rfl⟩
  ·obtain⟨t,h1,h2,h3⟩:=qK3 k (j+1) v h
   exact⟨t,by omega,by omega,h3⟩
theorem qKb{m:Int}:∀(k j i:Nat) (h:i<(diag m j k).length),(diag m j k)[i]=qCa m (j+i)
 |k+1,j,0,h=>by simp[diag]
 |k+1,j,i+1,h=>by
  simp only[diag,List.getElem_cons_succ];rw[qKb k (j+1) i]
  congr 1
  omega
def qSq(m:Int)(l:List Int):List Int:=l.map (fun x=>x%m)
structure qLg(m:Int)(n:Nat)(Sq R:List Vec):Prop where
 tri:qH0 m n 0 Sq
 into:∀r∈Sq,qAa (diag m 0 n++R) r
 onto:∀r∈R,qAa Sq r
theorem qLg.start{m:Int}(hm:0<m)(n:Nat):qLg m n (diag m 0 n) []:=
 ⟨qK2 hm n 0 n (by omega),fun r hr=>qAa.mem (by simpa using hr),fun r hr=>by simp at hr⟩
theorem qLg.step{m:Int}{n:Nat}{Sq Sq' R:List Vec}{a:Vec}{a':Vec}(h:qLg m n Sq R)(ha:∀t,n<=t->a t=0)(ha':∀t,n<=t->a' t=0)(hd:∀t,m∣a t-a' t)(hi:Ins m n 0 Sq a' Sq'):qLg m n Sq' (R++[a]):=by
 obtain⟨t1,t2,t3⟩:=hi.spec h.tri (fun k hk=>by omega) ha';have hdiff:∀L:List Vec,(∀k,k<n->qAa L (qCa m k))->qAa L (fun t=>a t-a' t):=fun L hL=>
  qCd n 0 _ (fun k _ b=>hL k b) (fun k hk=>by omega) (fun k hk=>by
   show a k-a' k=0
   rw[ha k hk,ha' k hk];rfl) hd
 refine⟨t1,fun r hr=>(t2 r hr).trans (fun s hs=> ?_),fun r hr=> ?_⟩
 ·rcases List.mem_cons.1 hs with rfl|hs
  ·have h1:qAa (diag m 0 n++(R++[a])) a:=qAa.mem (by simp)
   have h2:=hdiff (diag m 0 n++(R++[a])) (fun k hk=>qAa.mem (by
    rw[List.mem_append];refine .inl ?_;have:(diag m 0 n)[k]'(by rw[qHT];exact hk)=qCa m k:=by rw[qKb];congr 1;omega
    rw[<-this];exact List.getElem_mem _))
   exact(h1.sub h2).congr (fun j=>by show a j-(a j-s j)=s j;omega)
  ·refine(h.into s hs).trans (fun q hq=>qAa.mem ?_)
   simp only[List.mem_append]at hq ⊢;rcases hq with h|h
   ·exact .inl h
   ·exact .inr (.inl h)
 ·simp only[List.mem_append,List.mem_singleton]at hr
  rcases hr with hr|rfl
  ·exact(h.onto r hr).trans (fun s hs=>t3 s (by simp[hs]))
  ·have h1:=t3 a' (by simp)
   have h2:=hdiff Sq' (fun k hk=>t1.unit k (by omega) hk);exact(h1.add h2).congr (fun j=>by show a' j+(r j-a' j)=r j;omega)
def qDQ(m:Int)(n:Nat)(L:List Vec)(i:Nat)(L2:List Vec):Prop:=
 ∀rest,qMd m n i (L.drop i) rest->qMd m n 0 L (L2.take i++rest)
theorem qDQ.start(m:Int)(n:Nat)(L L2:List Vec):qDQ m n L 0 L2:=fun rest h=>by simpa using h
theorem qDQ.step{m:Int}{n i:Nat}{L L2:List Vec}{row':Vec}(h:qDQ m n L i L2)(hi:i<L.length)(hi2:i<L2.length)(hs:qDK m n i (L.drop (i+1)) L[i] row' n):qDQ m n L (i+1) (L2.set i row'):=by
 intro rest hr;have:=h (row'::rest) (by rw[List.drop_eq_getElem_cons hi];exact .cons hs hr);rw[List.take_succ_eq_append_getElem (by simpa using hi2),List.getElem_set_self,List.take_set_of_le (Nat.le_refl _)];simpa using this
theorem qDQ.done{m:Int}{n:Nat}{L L2:List Vec}(h:qDQ m n L L.length L2)(hl:L2.length=L.length):qMd m n 0 L L2:=by
 have:=h [] (by rw[List.drop_eq_nil_of_le (Nat.le_refl _)];exact .nil _)
 rwa [List.append_nil,List.take_of_length_le (by omega)]at this
theorem qLg.tri_{m:Int}{n:Nat}{Sq Sq' R:List Vec}(h:qLg m n Sq R)(hr:qMd m n 0 Sq Sq')(hu:∀k,k<n->qAa R (qCa m k)):Tri n Sq' R:=by
 obtain⟨r1,r2,r3,r4,r5⟩:=hr.spec h.tri;have hlen:Sq.length=n:=by have:=h.tri.len;omega
 refine⟨by omega,fun i hi t ht=> ?_,fun i hi=> ?_,fun s i hi hs=> ?_,fun r hr'=> ?_,fun r hr'=> ?_⟩
 ·rw[r4 i (by omega) hi t (by omega)]
  exact(h.tri.at_ i (by omega)).1 t (by omega)
 ·rw[r4 i (by omega) hi i (by omega)]
  have:=(h.tri.at_ i (by omega)).2.1
  rwa [Nat.zero_add]at this
 ·have:=r5 s i (by omega) (by omega) hs
  rw[r4 i (by omega) hi i (by omega)]
  rwa [Nat.zero_add]at this
 ·refine(r2 r hr').trans (fun s hs=>(h.into s hs).trans (fun q hq=> ?_))
  rcases List.mem_append.1 hq with hq|hq
  ·obtain⟨t,_,ht,rfl⟩:=qK3 n 0 q hq
   exact hu t (by omega)
  ·exact qAa.mem hq
 ·exact(h.onto r hr').trans r3
theorem qB4.unit{A M:List Vec}{ps:List Nat}{d:Int}{col:Nat}(h:qB4 A M ps d col)(hk:∀i (h:i<M.length),qEX A M[i])(hz:∀i (hi:i<M.length) t (ht:t<ps.length),i<ps.length->M[i] ps[t]=if t=i then d else 0)(k:Nat)(hkn:k<ps.length):qAa (A.map (res ps)) (qCa d k):=by
 have hkM:k<M.length:=by have:=h.len;have:=h.le;omega
 obtain⟨q,hq⟩:=(hk k hkM).span;refine⟨q,fun t=> ?_⟩;rw[<-qHs];unfold res qCa;by_cases ht:t<ps.length
 ·rw[dif_pos ht,<-hq,hz k hkM t ht hkn]
 ·rw[dif_neg ht,if_neg (by omega)]
theorem qOq{L:List Vec}{d:Int}{k:Nat}(h:qAa L (qCa d k)):qAa L (qCa (if d<0 then -d else d) k):=by
 split
 ·refine(h.smul (-1)).congr (fun t=> ?_)
  show -1*(if t=k then d else 0)=if t=k then -d else 0
  split<;>omega
 ·exact h
def Bd(m:Int)(l:List Int):Prop:=∀x∈l,0<=x/\x<=m
theorem Bd.set{m z:Int}{l:List Int}(h:Bd m l)(j:Nat)(hz:0<=z/\z<=m):Bd m (l.set j z):=by
 intro x hx;rcases List.mem_or_eq_of_mem_set hx with h1|h1
 ·exact h x h1
 ·rw[h1];exact hz
theorem Bd.mod{m:Int}(hm:0<m)(l:List Int):Bd m (qSq m l):=by
 intro x hx;obtain⟨y,_,rfl⟩:=List.mem_map.1 hx;have:=Int.emod_nonneg y (show m≠0 by omega);have:=Int.emod_lt_of_pos y hm;omega
theorem qGc(m x:Int):m∣x-x%m:=⟨x/m,by have:=Int.emod_add_mul_ediv x m;omega⟩
section
variable {m:Int}{n j:Nat}{row add row' add':List Int}
theorem qOZ(hr:∀k,k<j->vec row k=0)(hp:0<vec row j)(ha:∀k,k<=j->vec add k=0)(hrl:row.length=n)(hal:add.length=n)(hj:j<n):qBD m n j (vec row) (vec add) (vec row) (vec add):=
 qBD.mk' 1 0 0 1 (by omega) hr (fun k hk=>ha k (by omega)) (fun k hk=>qAs (by omega)) (fun k hk=>qAs (by omega)) hj hp (by omega) (ha j (by omega)) (by rw[ha j (by omega)];omega) (fun _ _=>rfl) (fun _ _=>rfl) (fun k hk=>qAs (by omega)) (fun k hk=>qAs (by omega))
  (fun k _ _=>⟨0,by omega⟩) (fun k _ _=>⟨0,by omega⟩)
theorem qQx{q:Int}(hr:∀k,k<j->vec row k=0)(hp:0<vec row j)(ha:∀k,k<j->vec add k=0)(hrl:row.length=n)(hal:add.length=n)(hal':add'.length=n)(hj:j<n)(hq:vec add j=q*vec row j)(h0:∀k,k<=j->vec add' k=0)(h1:∀k,j<k->k<n->m∣vec add k-q*vec row k-vec add' k):
 qBD m n j (vec row) (vec add) (vec row) (vec add'):=
 qBD.mk' 1 0 (-q) 1 (by omega) hr ha (fun k hk=>qAs (by omega)) (fun k hk=>qAs (by omega)) hj hp (by omega) (h0 j (by omega)) (by rw[hq,Int.neg_mul];omega) (fun _ _=>rfl) (fun k hk=>by rw[h0 k (by omega),ha k hk]) (fun k hk=>qAs (by omega)) (fun k hk=>qAs (by omega))
  (fun k _ _=>⟨0,by omega⟩) (fun k a b=>by have:=h1 k a b;rw[Int.neg_mul];rwa [show -(q*vec row k)+1*vec add k-vec add' k=vec add k-q*vec row k-vec add' k by omega])
theorem qO0{g u v:Int}(hb:qJp (vec row j) (vec add j) g u v)(hr:∀k,k<j->vec row k=0)(ha:∀k,k<j->vec add k=0)(hrl:row.length=n)(hal:add.length=n)(hrl':row'.length=n)(hal':add'.length=n)(hj:j<n)
 (h1:vec row' j=g)(h0:∀k,k<j->vec row' k=0)(h2:∀k,k<=j->vec add' k=0)
 (h3:∀k,j<k->k<n->m∣(u*vec row k+v*vec add k)-vec row' k)(h4:∀k,j<k->k<n->m∣(-(vec add j/g)*vec row k+vec row j/g*vec add k)-vec add' k):qBD m n j (vec row) (vec add) (vec row') (vec add'):=by
 obtain⟨x,hx⟩:=hb.gx;obtain⟨y,hy⟩:=hb.gy;have hg:=hb.g0;have e1:vec row j/g=x:=by rw[hx,Int.mul_ediv_cancel_left _ (by omega)]
 have e2:vec add j/g=y:=by rw[hy,Int.mul_ediv_cancel_left _ (by omega)]
 rw[e1,e2]at h4;have hd:u*x+v*y=1:=by
  have h5:=hb.eq;rw[hx,hy]at h5;have h6:g*(u*x+v*y)=g*1:=by
   rw[Int.mul_one]
   conv=>rhs;rw[<-h5]
   grind
  exact Int.eq_of_mul_eq_mul_left (by omega) h6
 refine qBD.mk' u v (-y) x (by rw[Int.mul_neg];omega) hr ha (fun k hk=>qAs (by omega)) (fun k hk=>qAs (by omega)) hj (by rw[h1];exact hg) (by rw[h1];exact hb.eq.symm) (h2 j (by omega)) (by rw[hx,hy];grind) (fun k hk=>by rw[h0 k hk,hr k hk]) (fun k hk=>by rw[h2 k (by omega),ha k hk]) (fun k hk=>qAs (by omega)) (fun k hk=>qAs (by omega)) h3 h4
end
structure qFh(m q:Int)(n j k:Nat)(row as_ as':List Int):Prop where
 len:as'.length=n
 keep:∀t,t<=j->vec as' t=vec as_ t
 rest:∀t,k<=t->vec as' t=vec as_ t
 dvd:∀t,j<t->t<k->m∣vec as_ t-q*vec row t-vec as' t
 bd:Bd m as'
section
variable {m q:Int}{n j k:Nat}{row as_ as':List Int}
theorem qFh.start(hl:as_.length=n)(hb:Bd m as_):qFh m q n j (j+1) row as_ as_:=⟨hl,fun _ _=>rfl,fun _ _=>rfl,fun t h1 h2=>by omega,hb⟩
theorem qFh.skip(h:qFh m q n j k row as_ as')(h0:vec row k=0):qFh m q n j (k+1) row as_ as':=
 ⟨h.len,h.keep,fun t ht=>h.rest t (by omega),fun t h1 h2=>by
  rcases Nat.lt_or_ge t k with h3|h3
  ·exact h.dvd t h1 h3
  ·obtain rfl:t=k:=by omega
   rw[h.rest t (Nat.le_refl _),h0];exact⟨0,by simp⟩,h.bd⟩
theorem qFh.step(h:qFh m q n j k row as_ as')(hm:0<m)(hj:j<k)(hk:k<n){z:Int}(hz:z=(vec as' k-q*vec row k)%m):qFh m q n j (k+1) row as_ (as'.set k z):=by
 have hl:=h.len;have e:∀t,vec (as'.set k z) t=if t=k then z else vec as' t:=fun t=>qCt (by omega) z t;refine⟨by rw[List.length_set];exact hl,fun t ht=>by rw[e,if_neg (by omega)];exact h.keep t ht,fun t ht=>by rw[e,if_neg (by omega)];exact h.rest t (by omega),fun t h1 h2=> ?_,h.bd.set k ?_⟩
 ·rw[e]
  rcases Nat.lt_or_ge t k with h3|h3
  ·rw[if_neg (by omega)];exact h.dvd t h1 h3
  ·obtain rfl:t=k:=by omega
   rw[if_pos rfl,hz,h.rest t (Nat.le_refl _)];exact qGc m _
 ·rw[hz]
  have:=Int.emod_nonneg (vec as' k-q*vec row k) (show m≠0 by omega);have:=Int.emod_lt_of_pos (vec as' k-q*vec row k) hm;omega
theorem qFh.ins(h:qFh m q n j n row as_ as')(hr:∀k,k<j->vec row k=0)(hp:0<vec row j)(ha:∀k,k<j->vec as_ k=0)(hrl:row.length=n)(hal:as_.length=n)(hj:j<n)(hq:vec as_ j=q*vec row j):qBD m n j (vec row) (vec as_) (vec row) (vec (as'.set j 0))/\Bd m (as'.set j 0)/\(as'.set j 0).length=n/\∀t,t<=j->vec (as'.set j 0) t=0:=by
 have hl:=h.len;have e:∀t,vec (as'.set j 0) t=if t=j then 0 else vec as' t:=fun t=>qCt (by omega) 0 t;have z:∀t,t<=j->vec (as'.set j 0) t=0:=fun t ht=>by
  rw[e]
  split
  ·rfl
  ·rw[h.keep t ht,ha t (by omega)]
 have hm0:0<=m:=by
  rcases Int.lt_or_le m 0 with h1|h1
  ·exfalso
   have:=h.bd (as'[j]'(by omega)) (List.getElem_mem _);omega
  ·exact h1
 refine⟨qQx hr hp ha hrl hal (by rw[List.length_set];exact hl) hj hq z (fun t h1 h2=> ?_),h.bd.set j ⟨by omega,hm0⟩,by rw[List.length_set];exact hl,z⟩;rw[e,if_neg (by omega)];exact h.dvd t h1 h2
end
structure qCG(m u v c d:Int)(n j k:Nat)(row as_ row' as':List Int):Prop where
 lenr:row'.length=n
 lena:as'.length=n
 keepr:∀t,t<=j->vec row' t=vec row t
 keepa:∀t,t<=j->vec as' t=vec as_ t
 restr:∀t,k<=t->vec row' t=vec row t
 resta:∀t,k<=t->vec as' t=vec as_ t
 dvdr:∀t,j<t->t<k->m∣(u*vec row t+v*vec as_ t)-vec row' t
 dvda:∀t,j<t->t<k->m∣(c*vec row t+d*vec as_ t)-vec as' t
 bdr:Bd m row'
 bda:Bd m as'
section
variable {m u v c d:Int}{n j k:Nat}{row as_ row' as':List Int}
theorem qCG.start(hl:row.length=n)(hl2:as_.length=n)(hb:Bd m row)(hb2:Bd m as_):qCG m u v c d n j (j+1) row as_ row as_:=
 ⟨hl,hl2,fun _ _=>rfl,fun _ _=>rfl,fun _ _=>rfl,fun _ _=>rfl,fun t h1 h2=>by omega,fun t h1 h2=>by omega,hb,hb2⟩
theorem qCG.skip(h:qCG m u v c d n j k row as_ row' as')(h1:vec row' k=0)(h2:vec as' k=0):qCG m u v c d n j (k+1) row as_ row' as':=by
 have e1:=h.restr k (Nat.le_refl _);have e2:=h.resta k (Nat.le_refl _);refine⟨h.lenr,h.lena,h.keepr,h.keepa,fun t ht=>h.restr t (by omega),fun t ht=>h.resta t (by omega),fun t g1 g2=> ?_,fun t g1 g2=> ?_,h.bdr,h.bda⟩
 ·rcases Nat.lt_or_ge t k with h3|h3
  ·exact h.dvdr t g1 h3
  ·obtain rfl:t=k:=by omega
   rw[<-e1,<-e2,h1,h2];exact⟨0,by simp⟩
 ·rcases Nat.lt_or_ge t k with h3|h3
  ·exact h.dvda t g1 h3
  ·obtain rfl:t=k:=by omega
   rw[<-e1,<-e2,h1,h2];exact⟨0,by simp⟩
theorem qCG.step(h:qCG m u v c d n j k row as_ row' as')(hm:0<m)(hj:j<k)(hk:k<n){x y:Int}(hx:vec row' k=x)(hy:vec as' k=y):qCG m u v c d n j (k+1) row as_ (row'.set k ((u*x+v*y)%m)) (as'.set k ((c*x+d*y)%m)):=by
 have e1:=h.restr k (Nat.le_refl _);have e2:=h.resta k (Nat.le_refl _);have hl:=h.lenr;have hl2:=h.lena;have r1:∀t,vec (row'.set k ((u*x+v*y)%m)) t=if t=k then (u*x+v*y)%m else vec row' t:=fun t=>qCt (by omega) _ t;have r2:∀t,vec (as'.set k ((c*x+d*y)%m)) t=if t=k then (c*x+d*y)%m else vec as' t:=fun t=>qCt (by omega) _ t;have bd:∀z:Int,0<=z%m/\z%m<=m:=fun z=>by
  have:=Int.emod_nonneg z (show m≠0 by omega);have:=Int.emod_lt_of_pos z hm;omega
 refine⟨by rw[List.length_set];exact hl,by rw[List.length_set];exact hl2,fun t ht=>by rw[r1,if_neg (by omega)];exact h.keepr t ht,fun t ht=>by rw[r2,if_neg (by omega)];exact h.keepa t ht,fun t ht=>by rw[r1,if_neg (by omega)];exact h.restr t (by omega),fun t ht=>by rw[r2,if_neg (by omega)];exact h.resta t (by omega),fun t g1 g2=> ?_,fun t g1 g2=> ?_,h.bdr.set k (bd _),h.bda.set k (bd _)⟩
 ·rw[r1]
  rcases Nat.lt_or_ge t k with h3|h3
  ·rw[if_neg (by omega)];exact h.dvdr t g1 h3
  ·obtain rfl:t=k:=by omega
   rw[if_pos rfl,<-e1,<-e2,hx,hy];exact qGc m _
 ·rw[r2]
  rcases Nat.lt_or_ge t k with h3|h3
  ·rw[if_neg (by omega)];exact h.dvda t g1 h3
  ·obtain rfl:t=k:=by omega
   rw[if_pos rfl,<-e1,<-e2,hx,hy];exact qGc m _
theorem qCG.ins{g:Int}(hb:qJp (vec row j) (vec as_ j) g u v)(h:qCG m u v (-(vec as_ j/g)) (vec row j/g) n j n row as_ row' as')(hr:∀k,k<j->vec row k=0)(ha:∀k,k<j->vec as_ k=0)(hrl:row.length=n)(hal:as_.length=n)(hj:j<n)(hg:g<=m):
 qBD m n j (vec row) (vec as_) (vec (row'.set j g)) (vec (as'.set j 0))/\Bd m (row'.set j g)/\Bd m (as'.set j 0)/\(row'.set j g).length=n/\(as'.set j 0).length=n/\∀t,t<=j->vec (as'.set j 0) t=0:=by
 have hl:=h.lenr;have hl2:=h.lena;have g0:=hb.g0;have r1:∀t,vec (row'.set j g) t=if t=j then g else vec row' t:=fun t=>qCt (by omega) _ t;have r2:∀t,vec (as'.set j 0) t=if t=j then 0 else vec as' t:=fun t=>qCt (by omega) _ t;have z:∀t,t<=j->vec (as'.set j 0) t=0:=fun t ht=>by
  rw[r2]
  split
  ·rfl
  ·rw[h.keepa t ht,ha t (by omega)]
 refine⟨qO0 hb hr ha hrl hal (by rw[List.length_set];exact hl) (by rw[List.length_set];exact hl2) hj (by rw[r1,if_pos rfl]) (fun t ht=>by rw[r1,if_neg (by omega),h.keepr t (by omega),hr t ht]) z (fun t h1 h2=> ?_) (fun t h1 h2=> ?_),h.bdr.set j ⟨by omega,hg⟩,h.bda.set j ⟨by omega,by omega⟩,by rw[List.length_set];exact hl,by rw[List.length_set];exact hl2,z⟩
 ·rw[r1,if_neg (by omega)];exact h.dvdr t h1 h2
 ·rw[r2,if_neg (by omega)];exact h.dvda t h1 h2
end
theorem Bd.sz{m:Int}{l:List Int}(h:Bd m l){j:Nat}(hj:j<l.length):0<=l[j]/\l[j]<=m:=h _ (List.getElem_mem hj)
structure qL7(m:Int)(n:Nat)(L0:List (List Int))(a0:List Int)(j:Nat)(L:List (List Int))(a:List Int):Prop where
 to:qGN m n (L0.map vec) (vec a0) j (L.map vec) (vec a)
 rest:∀i (h:i<L.length) (h':i<L0.length),j<=i->L[i]=L0[i]
 len:L.length=L0.length
 low:∀t,t<j->vec a t=0
 bd:∀r∈L,Bd m r
 bda:Bd m a
 alen:a.length=n
theorem qL7.start{m:Int}{n:Nat}{L:List (List Int)}{a:List Int}(hb:∀r∈L,Bd m r)(hba:Bd m a)(hl:a.length=n):qL7 m n L a 0 L a:=
 ⟨qGN.start _ _ _ _ _,fun _ _ _ _=>rfl,rfl,fun t h=>by omega,hb,hba,hl⟩
theorem qL7.step{m:Int}{n j:Nat}{L0 L:List (List Int)}{a0 a row' a':List Int}(h:qL7 m n L0 a0 j L a)(hj:j<L.length)(hs:qBD m n j (vec L[j]) (vec a) (vec row') (vec a'))(hb:Bd m row')(hb2:Bd m a')(hl:a'.length=n)(hz:∀t,t<=j->vec a' t=0):qL7 m n L0 a0 (j+1) (L.set j row') a':=by
 have hlen:=h.len;refine⟨?_,fun i hi hi' hij=> ?_,by rw[List.length_set];exact hlen,fun t ht=>hz t (by omega),fun r hr=> ?_,hb2,hl⟩
 ·rw[List.map_set]
  refine h.to.step (by simp;omega) (by simpa using hj) ?_;rw[List.getElem_map,<-h.rest j hj (by omega) (Nat.le_refl _)];exact hs
 ·rw[List.getElem_set_ne (by omega)]
  exact h.rest i (by simpa using hi) hi' (by omega)
 ·rcases List.mem_or_eq_of_mem_set hr with h1|h1
  ·exact h.bd r h1
  ·rw[h1];exact hb
theorem qL7.same{m:Int}{n j:Nat}{L0 L:List (List Int)}{a0 a:List Int}(h:qL7 m n L0 a0 j L a)(hj:j<L.length)(hs:qBD m n j (vec L[j]) (vec a) (vec L[j]) (vec a))(hz:vec a j=0):qL7 m n L0 a0 (j+1) L a:=by
 have h1:=h.step (row':=L[j]) (a':=a) hj hs (h.bd _ (List.getElem_mem _)) h.bda h.alen (fun t ht=>by
  rcases Nat.lt_or_ge t j with h2|h2
  ·exact h.low t h2
  ·rw[show t=j by omega];exact hz)
 rwa [List.set_getElem_self]at h1
theorem qL7.done{m:Int}{n:Nat}{L0 L:List (List Int)}{a0 a:List Int}(h:qL7 m n L0 a0 L0.length L a):Ins m n 0 (L0.map vec) (vec a0) (L.map vec):=by
 have:=h.to;have hl:=h.len;exact qGN.done (a2:=vec a) (by simpa using this) (by simpa using hl)
open Go
section
variable {P:Program}{md:Region.Mode}{ops:Array Oper}{Q:Exit->Act->World->Prop}{S:World->Prop}{late:List Nat}
def qMa(listed:Array Bool)(p:Nat->Bool):List Nat->Array Bool
 |[]=>listed
 |i::r=>if p i then (qMa listed p r).setIfInBounds i true else qMa listed p r
theorem qDv{listed:Array Bool}{p q:Nat->Bool}:∀{L:List Nat},(∀j∈L,p j=q j)->qMa listed p L=qMa listed q L
 |[],_=>rfl
 |i::r,h=>by
  unfold qMa;rw[h i List.mem_cons_self,qDv (L:=r) (fun j hj=>h j (List.mem_cons_of_mem _ hj))]
theorem qHG{listed:Array Bool}{p:Nat->Bool}{i:Nat}:∀{L:List Nat},i∈L->qMa listed (fun j=>j==i||p j) L=(qMa listed p L).setIfInBounds i true
 |[],h=>by cases h
 |a::r,h=>by
  unfold qMa;by_cases e:a=i
  ·subst e
   rw[if_pos (by simp)];by_cases hr:a∈r
   ·rw[qHG hr]
    split
    ·rw[Array.setIfInBounds_setIfInBounds]
    ·rw[Array.setIfInBounds_setIfInBounds]
   ·rw[qDv (q:=p) (fun j hj=>by simp[show j≠a from fun h9=>hr (h9▸hj)])]
    split
    ·rw[Array.setIfInBounds_setIfInBounds]
    ·rfl
  ·have hr:i∈r:=(List.mem_cons.1 h).resolve_left (Ne.symm e)
   rw[qHG hr];simp only[beq_iff_eq,e,Bool.or_eq_true,false_or]
   split
   ·rw[Array.setIfInBounds_comm _ _ (Ne.symm e)]
   ·rfl
def qLo:List Nat->List (List Nat)
 |[]=>[[]]
 |a::r=>qLo r++(qLo r).map (a:: ·)
theorem qDf(p:Nat->Bool):∀L:List Nat,L.filter p∈qLo L
 |[]=>by simp[qLo]
 |a::r=>by
  unfold qLo;rw[List.filter_cons,List.mem_append]
  split
  ·exact Or.inr (List.mem_map.2 ⟨_,qDf p r,rfl⟩)
  ·exact Or.inl (qDf p r)
def qSk(md:Region.Mode)(ops:Array Oper)(listed:Array Bool)(L:List Nat)(dep:List (Nat×Nat)):Bool:=(qLo L).all fun l=>
 !(dep.all fun d=> !(l.contains d.1)||l.contains d.2)||(L.all l.contains)||
  (let r:=Region.ready md ops (qMa listed l.contains L);!r.isEmpty && r.all fun i=>L.contains i && !l.contains i && !late.contains i && dep.all fun d=> !(d.1==i)||l.contains d.2)
theorem qQF(L:List Nat)(dep:List (Nat×Nat))(n:Nat)(J:Array Value->List Deferred->(Nat->Bool)->Act->World->Prop){f:Nat}{listed:Array Bool}{tmps:Array Value}{ds:List Deferred}{w:World}
 (h0:J tmps ds (fun _=>false) ⟨tmps,ds⟩ w)(hb:qSk (late:=late) md ops listed L dep=true:=by kernel_rfl)(hn:L.Nodup:=by decide)(hl:L.length=n:=by rfl)(hd:dep.all (fun d=>L.contains d.1 && L.contains d.2)=true:=by rfl)
 (hstep:qRf (fun i=>∀p a w,J tmps ds p a w->(∀d,(i,d)∈dep->p d=true)->wpOp P ops Q i (fun a' w'=>S w'/\J tmps ds (fun j=>j==i||p j) a' w') a w) L)
 (hfin:∀p a w,J tmps ds p a w->(∀j∈L,p j=true)->qAA P md ops Q S late f (qMa listed (fun _=>true) L) a w):qAA P md ops Q S late (f+n) listed ⟨tmps,ds⟩ w:=by
 have key:∀(k:Nat) (p:Nat->Bool) (a:Act) (w:World),(L.filter (fun j=> !p j)).length=k->(∀d∈dep,p d.1=true->p d.2=true)->J tmps ds p a w->qAA P md ops Q S late (f+k) (qMa listed p L) a w:=by
  intro k
  induction k with
  |zero=>
   intro p a w hk _ hJ;have hp:∀j∈L,p j=true:=fun j hj=>by
    have:=List.filter_eq_nil_iff.1 (List.length_eq_zero_iff.1 hk) j hj;simpa using this
   rw[qDv (q:=fun _=>true) hp];exact hfin p a w hJ hp
  |succ k ih=>
   intro p a w hk hc hJ;have hm:=qDf p L;obtain⟨l,hl'⟩:∃l,L.filter p=l:=⟨_,rfl⟩;have hlp:∀j∈L,l.contains j=p j:=fun j hj=>by
    rw[<-hl'];cases hpj:p j
    ·rw[List.contains_eq_mem,decide_eq_false_iff_not,List.mem_filter]
     rintro⟨_,h9⟩;rw[hpj]at h9;cases h9
    ·rw[List.contains_eq_mem,decide_eq_true_iff,List.mem_filter]
     exact⟨hj,hpj⟩
   rw[hl']at hm;have h1:=List.all_eq_true.1 hb l hm;have hdL:∀d∈dep,d.1∈L/\d.2∈L:=fun d hd'=>by
    have:=List.all_eq_true.1 hd d hd';simpa using this
   have c1:(dep.all fun d=> !(l.contains d.1)||l.contains d.2)=true:=List.all_eq_true.2 fun d hd'=>by
    rw[hlp _ (hdL d hd').1,hlp _ (hdL d hd').2];cases hp1:p d.1
    ·rfl
    ·rw[hc d hd' hp1];rfl
   have c2:(L.all l.contains)=false:=by
    rw[Bool.eq_false_iff];intro h9;have:L.filter (fun j=> !p j)=[]:=List.filter_eq_nil_iff.2 fun j hj=>by
     have:=List.all_eq_true.1 h9 j hj;rw[hlp j hj]at this;simp[this]
    rw[this]at hk;cases hk
   rw[c1,c2,qDv (q:=p) hlp]at h1;simp only[Bool.not_true,Bool.or_self,Bool.false_or,Bool.and_eq_true,List.all_eq_true,Bool.not_eq_true',List.isEmpty_eq_false_iff]at h1;obtain⟨r1,r2⟩:=h1;refine⟨fun h9=>absurd h9 r1,fun i hi=> ?_⟩;obtain⟨⟨⟨k1,k2⟩,k3⟩,k4⟩:=r2 i hi;have hiL:i∈L:=by simpa using k1
   have hpi:p i=false:=by rw[<-hlp i hiL];exact k2
   have hdi:∀d,(i,d)∈dep->p d=true:=fun d hd'=>by
    have:=k4 (i,d) hd';rw[hlp d (hdL _ hd').2]at this;simpa using this
   refine wpOp_mono (fun a' w' h9=>⟨fun _ _=>h9.1,?_⟩) (hstep.mem i hiL p a w hJ hdi);rw[<-qHG hiL];refine ih _ a' w' ?_ (fun d hd' h8=> ?_) h9.2
   ·have e1:L.filter (fun j=> !(j==i||p j))=(L.filter (fun j=> !p j)).erase i:=by
     rw[List.Nodup.erase_eq_filter (hn.filter _),List.filter_filter];refine List.filter_congr fun j _=> ?_;cases hji:(j==i)<;>cases hpj:p j<;>simp_all
    rw[e1,List.length_erase_of_mem (List.mem_filter.2 ⟨hiL,by simp[hpi]⟩),hk];rfl
   ·simp only[Bool.or_eq_true,beq_iff_eq]at h8 ⊢
    rcases h8 with h8|h8
    ·exact Or.inr (hdi d.2 (h8▸hd'))
    ·exact Or.inr (hc d hd' h8)
 have e0:qMa listed (fun _=>false) L=listed:=by
  clear hb hstep hfin key hl hn hd
  induction L with
  |nil=>rfl
  |cons i r ih=>exact ih
 have:=key n (fun _=>false) ⟨tmps,ds⟩ w (by rw[show(L.filter (fun _=> !false))=L from List.filter_eq_self.2 (fun _ _=>rfl)];exact hl) (fun _ _ h=>by cases h) h0
 rwa [e0]at this
theorem qCO(i:Nat){o:Oper}{J:Act->World->Prop}{a:Act}{w:World}(ho:ops[i]? =some o)
 (h:∀K':Act->World->Prop,Shut (∀a w,S w->J a w->K' a w)->if Region.wanted o (yielded ops a.tmps)=true then Oper.wp P o a w K' Q else K' (a.put o.dst undef) w):
 wpOp P ops Q i (fun a' w'=>S w'/\J a' w') a w:=
 wpOp_step ho (fun K' hK=>h K' (fun a w hS hW=>hK a w ⟨hS,hW⟩))
end
end Go.Proofs.YtkjhlkngihponaaGreatDoor
