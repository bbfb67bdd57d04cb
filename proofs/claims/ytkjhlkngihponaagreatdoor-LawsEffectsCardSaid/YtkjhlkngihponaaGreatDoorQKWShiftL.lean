/- wide: shiftLeft. -/
import Derived.Test.YtkjhlkngihponaaGreatDoorQKWDivide
import Derived.IntWalk
import Derived.Lib.BitFns
import Derived.Lib.Walk
set_option linter.unusedVariables false
set_option linter.unusedSimpArgs false
set_option maxHeartbeats 4000000
set_option maxRecDepth 100000
namespace Go.Proofs.YtkjhlkngihponaaGreatDoor
open Go.RowKit
def qRb(m d:Nat):Prop:=∀(w:World) (va vb:Value),qAK w va m->qAK w vb d->Calls Tryz.prog 113 #[va,vb] w (qKn m d w)
theorem qJ7{m d:Nat}(hd0:d≠0)(hm:m<LIM)(hd:m<d\/d<W2)(hd2:d<LIM):qRb m d:=fun w va vb ha hb=>qIV va vb m d w ha hb hd0 hm hd hd2
def qOf(x y:Int):Int:=if x<0/\x.natAbs%y.natAbs≠0 then sgn (decide (x<0) != decide (y<0)) (x.natAbs/y.natAbs+1)else sgn (decide (x<0) != decide (y<0)) (x.natAbs/y.natAbs)
def rOf(x y:Int):Nat:=if x<0/\x.natAbs%y.natAbs≠0 then y.natAbs-x.natAbs%y.natAbs else x.natAbs%y.natAbs
def qPQ(x y:Int)(w:World)(e:Ending)(w':World):Prop:=
 Below w.heap.size w w'/\∃vq vr,e=.returned (.tuple #[vq,vr,.int .i64 0])/\qAr w' vq (qOf x y)/\qAr w' vr (rOf x y)
theorem Two.far{w:World}{b:Nat}{t:TypeId}{x y:Value}(h:Two w b t x y){p:Addr}(hp:b≠p.block)(u:Value):Two (w.setCell p u) b t x y:=(Below.heap_setCell w p u b hp).trans h
theorem qRS(w:World)(t:TypeId)(x1 x2 y1 y2 z1 z2 u1 u2:Value)(n:Nat)(hn:w.heap.size=n):∃W,(((w.alloc (.cells #[x1,x2] t)).alloc (.cells #[y1,y2] t)).alloc (.cells #[z1,z2] t)).alloc (.cells #[u1,u2] t)=W/\
 Two W n t x1 x2/\Two W (n+1) t y1 y2/\Two W (n+1+1) t z1 z2/\Two W (n+1+1+1) t u1 u2/\Below n w W/\W.heap.size=n+1+1+1+1:=by
 obtain⟨V,hV,t1,t2,t3,hB,hs⟩:=qDN w t x1 x2 y1 y2 z1 z2 n hn;rw[hV];refine⟨_,rfl,t1.alloc _,t2.alloc _,t3.alloc _,?_,hB.alloc (by omega) _,by simp[hs]⟩;have:=Two.new V t u1 u2;rw[hs]at this;exact this
theorem qDu{w:World}{v:Value}{n:Nat}(h:qAK w v n):∃a l c,v=.slice a l c/\qAK w (.slice a l c) n/\l=(qAm W2 n).length/\l<=c/\c<=9223372036854775807:=by
 obtain⟨a,c,rfl,h1,h2,h3⟩:=h;exact⟨a,_,c,rfl,⟨a,c,rfl,h1,h2,h3⟩,rfl,h1,h2⟩
theorem qJO{n:Nat}:0<(qAm W2 n).length ↔ n≠0:=by
 rw[List.length_pos_iff,ne_eq,qBB W2 n qAk]
theorem qJF{x y:Int}(h:¬(x<0/\x.natAbs%y.natAbs≠0)):qOf x y=sgn (decide (x<0) != decide (y<0)) (x.natAbs/y.natAbs)/\rOf x y=x.natAbs%y.natAbs:=by
 unfold qOf rOf;rw[if_neg h,if_neg h];exact⟨rfl,rfl⟩
theorem qMM{x y:Int}(h:x<0/\x.natAbs%y.natAbs≠0):qOf x y=sgn (decide (x<0) != decide (y<0)) (x.natAbs/y.natAbs+1)/\rOf x y=y.natAbs-x.natAbs%y.natAbs:=by
 unfold qOf rOf;rw[if_pos h,if_pos h];exact⟨rfl,rfl⟩
theorem qJ9(vx vy:Value)(x y:Int)(w:World)(hx:qAr w vx x)(hy:qAr w vy y)(hy0:y≠0)(hlx:x.natAbs<LIM)(hly:y.natAbs<LIM)(hok:qRb x.natAbs y.natAbs):
 Calls Tryz.prog 50 #[vx,vy] w (qPQ x y w):=by
 obtain⟨vwx,rfl,hmx⟩:=hx;obtain⟨vwy,rfl,hmy⟩:=hy;obtain⟨ax,nx,cx,rfl,hmx,hnx,hcx⟩:=qDu hmx;obtain⟨ay,ny,cy,rfl,hmy,hny,hcy⟩:=qDu hmy;have hypos:0<ny:=by rw[hny,qJO];omega
 have hy1:((ny:Int)==0)=false:=by simp;omega
 obtain⟨n,hn⟩:=eX w.heap.size;have Hn:=hZ hn;obtain⟨W,hW,t1,t2,t3,t4,hBW,hsW⟩:=qRS w 73 (.bool (decide (x<0))) (.slice ax nx cx) (.bool (decide (y<0))) (.slice ay ny cy) (.bool false) (.slice none 0 0) (.bool false) (.slice none 0 0) n hn;have Hd:=hZ (hok W (.slice ax nx cx) (.slice ay ny cy) (hmx.below (Nat.le_of_eq hn) hBW) (hmy.below (Nat.le_of_eq hn) hBW));have HY:=hZ hmy;have hle:=(qA6 y.natAbs).2 hly;have hlex:=(qA6 x.natAbs).2 hlx;have Hlex:=hZ hlex;have Hlx:=hZ hlx;have Hle:=hZ hle;have Hmod:=hZ (Nat.mod_lt x.natAbs (show 0<y.natAbs by omega));have HBW:=hZ hBW;have T1:=hZ t1;have T2:=hZ t2;have T3:=hZ t3;have T4:=hZ t4;have d1:=t1.cell1;have d3:=t2.cell1;obtain⟨sx,hsx⟩:=eX (decide (x<0));obtain⟨sy,hsy⟩:=eX (decide (y<0));rw[hsx]at hW T1 ⊢;rw[hsy]at hW T2 ⊢;have Hsx:=hZ hsx;have Hsy:=hZ hsy;clear hok hmx hmy t1 t2 t3 t4 hBW hnx hny hle hlex hlx hly hy0 hsx hsy
 go_enter Tryz.func50,Tryz.ntmps50
 go_wp2_with fail
 clear hW hy1;refine Hd.o.mono ?_;rintro e w1 ⟨hB1,vq,vr,rfl,hq,hr⟩;obtain⟨aq,lq,cq,rfl,hq,hlq,hcq⟩:=qDu hq;obtain⟨ar,lr,cr,rfl,hr,hlr,hcr⟩:=qDu hr;have Hq:=hZ hq;have Hr:=hZ hr;have Hlr:=hZ hlr;have HB1:=hZ (HBW.o.trans (hB1.mono (by omega)));have z1:=hB1.size;rw[hsW]at z1;have T11:=hZ (T1.o.below hB1 (by omega));have T12:=hZ (T2.o.below hB1 (by omega));have T13:=hZ (T3.o.below hB1 (by omega));have T14:=hZ (T4.o.below hB1 (by omega));have e0:=T11.o.cell0;have e2:=T12.o.cell0;have e3:=T12.o.cell1;have Hor:=hZ (show lr=0 ↔ x.natAbs%y.natAbs=0 by
  have:=qJO (n:=x.natAbs%y.natAbs);rw[<-hlr]at this;omega)
 clear hq hr hlr hlq hB1 Hd T1 T2 T3 T4 d1 d3;by_cases hcase:sx=true/\0<lr
 ·obtain⟨rfl,hlr0⟩:=hcase
  have Hqr:Hid (qOf x y=sgn (!sy) (x.natAbs/y.natAbs+1)/\rOf x y=y.natAbs-x.natAbs%y.natAbs):=hZ (by
   have h9:=qMM (x:=x) (y:=y) ⟨by simpa using Hsx.o,fun h=>by have:=Hor.o.2 h;omega⟩;rw[Hsx.o,Hsy.o]at h9;refine⟨h9.1.trans ?_,h9.2⟩;cases sy<;>rfl)
  obtain⟨wa,hwa⟩:=eX (w1.alloc (.cells #[.int .u32 1] 151));have hBa:Below w1.heap.size w1 wa:=by rw[<-hwa];exact aR
  have hza:wa.heap.size=w1.heap.size+1:=by rw[<-hwa];simp
  have hblk:Blk wa w1.heap.size 151 .u32 [1]:=by rw[<-hwa];exact heap_alloc_new w1 _
  have hone:qAK wa (.slice (some ⟨w1.heap.size,0,none⟩) 1 1) 1:=by
   have hd1:qAm W2 1=[1]:=by rw[qBt W2 1 qAk (by omega),show 1/W2=0 from rfl,qA3];rfl
   unfold qAK;rw[hd1];exact qAd.of_blk hblk (by simp) (by simp)
  have Hlq:Hid ((qAm W2 (x.natAbs/y.natAbs)).length<=512):=hZ ((qA6 _).2 (Nat.lt_of_le_of_lt (Nat.div_le_self _ _) Hlx.o));have Hpl:=hZ (qKG _ _ _ 1 wa (qAd.below Hq.o (Nat.le_refl _) hBa) hone (by have:=Hlq.o;omega) (by rw[show qAm W2 1=[1] by rw[qBt W2 1 qAk (by omega),show 1/W2=0 from rfl,qA3];rfl];simp));have HBa:=hZ hBa;clear hBa hblk hone
  go_wp2_with fail
  refine Hpl.o.mono ?_;rintro e w2 ⟨v2,rfl,hm2,hB2⟩;obtain⟨a3,l3,c3,rfl,hm2, -,hc3⟩:=qDu hm2;have Hm2:=hZ hm2;have HB2:=hZ (HBa.o.trans (hB2.mono (by omega)));have z2:=HB2.o.size;have HT2y:=hZ (T12.o.below HB2.o (by omega));have e3':=HT2y.o.cell1;have Hmin:=hZ (qFT (.slice ay ny cy) (.slice ar lr cr) y.natAbs (x.natAbs%y.natAbs) w2 (HY.o.below (Nat.le_of_eq hn) (HB1.o.trans (HB2.o.mono (by omega)))) (qAd.below Hr.o (Nat.le_refl _) HB2.o) (Nat.le_of_lt Hmod.o) (by have:=Hle.o;omega));clear hm2 hB2 Hpl
  go_wp2_with fail
  refine Hmin.o.mono ?_;rintro e w3 ⟨v3,rfl,hm3,hB3⟩;obtain⟨a4,l4,c4,rfl,hm3, -,hc4⟩:=qDu hm3;have Hr3:=hZ hm3;have Hq3:=hZ (qAd.below Hm2.o (Nat.le_refl _) hB3);have HB23:=hZ (HB2.o.trans (hB3.mono (by omega)));have z3:=HB23.o.size;have HB3:=hZ (HB1.o.trans (HB23.o.mono (by omega)));have T31:=hZ (T11.o.below HB23.o (by omega));have T32:=hZ (T12.o.below HB23.o (by omega));have T33:=hZ (T13.o.below HB23.o (by omega));have T34:=hZ (T14.o.below HB23.o (by omega));have k0:=T31.o.cell0;have k2:=T32.o.cell0;clear hm3 hB3 Hmin;obtain⟨Q1,hQ1⟩:=eX (x.natAbs/y.natAbs+1);obtain⟨R1,hR1⟩:=eX (y.natAbs-x.natAbs%y.natAbs);have HQM:Hid (qAK w3 (.slice a3 l3 c3) Q1):=hZ (by rw[<-hQ1];exact Hq3.o);have HRM:Hid (qAK w3 (.slice a4 l4 c4) R1):=hZ (by rw[<-hR1];exact Hr3.o);rw[hQ1,hR1]at Hqr;clear hQ1 hR1 Hq3 Hr3 Hm2
  go_wp2_with fail
  refine(qAX _ _ _ w3 HQM.o).mono ?_;rintro e w7 ⟨rfl,hB7⟩;have HB7:=hZ hB7;have z7:=hB7.size;clear hB7
  go_wp2_with fail
  refine(qAX _ _ _ w7 (qAd.below HRM.o (Nat.le_refl _) HB7.o)).mono ?_;rintro e w8 ⟨rfl,hB8⟩;have HB8:=hZ (HB7.o.trans (hB8.mono z7));have z8:=HB8.o.size;have HT3:=hZ (T33.o.below HB8.o (by omega));have HT4:=hZ (T34.o.below HB8.o (by omega));have HQ8:=hZ (qAd.below HQM.o (Nat.le_refl _) HB8.o);have HR8:=hZ (qAd.below HRM.o (Nat.le_refl _) HB8.o);have HBall:=hZ (HB3.o.trans (HB8.o.mono (by omega)));have g0:=HT3.o.cell0;have g1:=HT3.o.cell1;have g2:=HT3.o.frozen 0;have g3:=HT3.o.frozen 1;have g4:=HT4.o.cell0;have g5:=HT4.o.cell1;have g6:=HT4.o.frozen 0;have g7:=HT4.o.frozen 1;clear hB8
  go_wp2
  refine bodyPost_ret (v:=.tuple #[.agg #[.bool (decide (sgn (!sy) Q1<0)),.slice a3 l3 c3],.agg #[.bool (decide (sgn false R1<0)),.slice a4 l4 c4],.int .i64 0]) (by simp[results,Tryz.results50,go_sem,g0,g1,g4,g5]) rfl ?_;refine⟨?_,_,_,rfl,qAr.mk ?_ ?_,qAr.mk ?_ ?_⟩
  ·rw[Hn.o]
   exact(((HBall.o.setCell (p:=⟨n+1+1,0,none⟩) (by show n<=n+1+1;omega) _).setCell (p:=⟨n+1+1,1,none⟩) (by show n<=n+1+1;omega) _).setCell (p:=⟨n+1+1+1,0,none⟩) (by show n<=n+1+1+1;omega) _).setCell (p:=⟨n+1+1+1,1,none⟩) (by show n<=n+1+1+1;omega) _
  ·rw[Hqr.o.1]
  ·rw[Hqr.o.1,qA5]
   exact qAd.store_two (qAd.store_two HQ8.o HT3.o (fun _ _ h=>by cases h) (fun _ _ h=>by cases h) _ _) ((HT4.o.far (by show n+1+1+1≠n+1+1;omega) _).far (by show n+1+1+1≠n+1+1;omega) _) (fun _ _ h=>by cases h) (fun _ _ h=>by cases h) _ _
  ·rw[Hqr.o.2];rfl
  ·rw[Hqr.o.2]
   exact qAd.store_two (qAd.store_two HR8.o HT3.o (fun _ _ h=>by cases h) (fun _ _ h=>by cases h) _ _) ((HT4.o.far (by show n+1+1+1≠n+1+1;omega) _).far (by show n+1+1+1≠n+1+1;omega) _) (fun _ _ h=>by cases h) (fun _ _ h=>by cases h) _ _
 ·cases sx with
  |false=>
   have Hqr:Hid (qOf x y=sgn sy (x.natAbs/y.natAbs)/\rOf x y=x.natAbs%y.natAbs):=hZ (by
    have h9:=qJF (x:=x) (y:=y) (fun h=>by have h8:=Hsx.o;rw[decide_eq_true h.1]at h8;cases h8);rw[Hsx.o,Hsy.o]at h9;refine⟨h9.1.trans ?_,h9.2⟩;cases sy<;>rfl)
   clear hcase
   go_wp2_with fail
   refine(qAX _ _ _ w1 Hq.o).mono ?_;rintro e w7 ⟨rfl,hB7⟩;have HB7:=hZ hB7;have z7:=hB7.size;clear hB7
   go_wp2_with fail
   refine(qAX _ _ _ w7 (qAd.below Hr.o (Nat.le_refl _) HB7.o)).mono ?_;rintro e w8 ⟨rfl,hB8⟩;have HB8:=hZ (HB7.o.trans (hB8.mono z7));have z8:=HB8.o.size;have HT3:=hZ (T13.o.below HB8.o (by omega));have HT4:=hZ (T14.o.below HB8.o (by omega));have HQ8:=hZ (qAd.below Hq.o (Nat.le_refl _) HB8.o);have HR8:=hZ (qAd.below Hr.o (Nat.le_refl _) HB8.o);have HBall:=hZ (HB1.o.trans (HB8.o.mono (by omega)));have g0:=HT3.o.cell0;have g1:=HT3.o.cell1;have g2:=HT3.o.frozen 0;have g3:=HT3.o.frozen 1;have g4:=HT4.o.cell0;have g5:=HT4.o.cell1;have g6:=HT4.o.frozen 0;have g7:=HT4.o.frozen 1;clear hB8
   go_wp2
   refine bodyPost_ret (v:=.tuple #[.agg #[.bool (decide (sgn sy (x.natAbs/y.natAbs)<0)),.slice aq lq cq],.agg #[.bool (decide (sgn false (x.natAbs%y.natAbs)<0)),.slice ar lr cr],.int .i64 0]) (by simp[results,Tryz.results50,go_sem,g0,g1,g4,g5]) rfl ?_;refine⟨?_,_,_,rfl,qAr.mk ?_ ?_,qAr.mk ?_ ?_⟩
   ·rw[Hn.o]
    exact(((HBall.o.setCell (p:=⟨n+1+1,0,none⟩) (by show n<=n+1+1;omega) _).setCell (p:=⟨n+1+1,1,none⟩) (by show n<=n+1+1;omega) _).setCell (p:=⟨n+1+1+1,0,none⟩) (by show n<=n+1+1+1;omega) _).setCell (p:=⟨n+1+1+1,1,none⟩) (by show n<=n+1+1+1;omega) _
   ·rw[Hqr.o.1]
   ·rw[Hqr.o.1,qA5]
    exact qAd.store_two (qAd.store_two HQ8.o HT3.o (fun _ _ h=>by cases h) (fun _ _ h=>by cases h) _ _) ((HT4.o.far (by show n+1+1+1≠n+1+1;omega) _).far (by show n+1+1+1≠n+1+1;omega) _) (fun _ _ h=>by cases h) (fun _ _ h=>by cases h) _ _
   ·rw[Hqr.o.2];rfl
   ·rw[Hqr.o.2]
    exact qAd.store_two (qAd.store_two HR8.o HT3.o (fun _ _ h=>by cases h) (fun _ _ h=>by cases h) _ _) ((HT4.o.far (by show n+1+1+1≠n+1+1;omega) _).far (by show n+1+1+1≠n+1+1;omega) _) (fun _ _ h=>by cases h) (fun _ _ h=>by cases h) _ _
  |true=>
   obtain rfl:lr=0:=by simp at hcase;omega
   have Hqr:Hid (qOf x y=sgn (!sy) (x.natAbs/y.natAbs)/\rOf x y=x.natAbs%y.natAbs):=hZ (by
    have h9:=qJF (x:=x) (y:=y) (fun h=>h.2 (Hor.o.1 rfl));rw[Hsx.o,Hsy.o]at h9;refine⟨h9.1.trans ?_,h9.2⟩;cases sy<;>rfl)
   clear hcase
   go_wp2_with fail
   refine(qAX _ _ _ w1 Hq.o).mono ?_;rintro e w7 ⟨rfl,hB7⟩;have HB7:=hZ hB7;have z7:=hB7.size;clear hB7
   go_wp2_with fail
   refine(qAX _ _ _ w7 (qAd.below Hr.o (Nat.le_refl _) HB7.o)).mono ?_;rintro e w8 ⟨rfl,hB8⟩;have HB8:=hZ (HB7.o.trans (hB8.mono z7));have z8:=HB8.o.size;have HT3:=hZ (T13.o.below HB8.o (by omega));have HT4:=hZ (T14.o.below HB8.o (by omega));have HQ8:=hZ (qAd.below Hq.o (Nat.le_refl _) HB8.o);have HR8:=hZ (qAd.below Hr.o (Nat.le_refl _) HB8.o);have HBall:=hZ (HB1.o.trans (HB8.o.mono (by omega)));have g0:=HT3.o.cell0;have g1:=HT3.o.cell1;have g2:=HT3.o.frozen 0;have g3:=HT3.o.frozen 1;have g4:=HT4.o.cell0;have g5:=HT4.o.cell1;have g6:=HT4.o.frozen 0;have g7:=HT4.o.frozen 1;clear hB8
   go_wp2
   refine bodyPost_ret (v:=.tuple #[.agg #[.bool (decide (sgn (!sy) (x.natAbs/y.natAbs)<0)),.slice aq lq cq],.agg #[.bool (decide (sgn false (x.natAbs%y.natAbs)<0)),.slice ar 0 cr],.int .i64 0]) (by simp[results,Tryz.results50,go_sem,g0,g1,g4,g5]) rfl ?_;refine⟨?_,_,_,rfl,qAr.mk ?_ ?_,qAr.mk ?_ ?_⟩
   ·rw[Hn.o]
    exact(((HBall.o.setCell (p:=⟨n+1+1,0,none⟩) (by show n<=n+1+1;omega) _).setCell (p:=⟨n+1+1,1,none⟩) (by show n<=n+1+1;omega) _).setCell (p:=⟨n+1+1+1,0,none⟩) (by show n<=n+1+1+1;omega) _).setCell (p:=⟨n+1+1+1,1,none⟩) (by show n<=n+1+1+1;omega) _
   ·rw[Hqr.o.1]
   ·rw[Hqr.o.1,qA5]
    exact qAd.store_two (qAd.store_two HQ8.o HT3.o (fun _ _ h=>by cases h) (fun _ _ h=>by cases h) _ _) ((HT4.o.far (by show n+1+1+1≠n+1+1;omega) _).far (by show n+1+1+1≠n+1+1;omega) _) (fun _ _ h=>by cases h) (fun _ _ h=>by cases h) _ _
   ·rw[Hqr.o.2];rfl
   ·rw[Hqr.o.2]
    exact qAd.store_two (qAd.store_two HR8.o HT3.o (fun _ _ h=>by cases h) (fun _ _ h=>by cases h) _ _) ((HT4.o.far (by show n+1+1+1≠n+1+1;omega) _).far (by show n+1+1+1≠n+1+1;omega) _) (fun _ _ h=>by cases h) (fun _ _ h=>by cases h) _ _
def qPN(z:Int)(w:World)(e:Ending)(w':World):Prop:=
 ∃a n c,e=.returned (.agg #[.bool (decide (z<0)),.slice a n c])/\qAr w' (.agg #[.bool (decide (z<0)),.slice a n c]) z/\Below w.heap.size w w'
theorem Two.setB{w:World}{b:Nat}{t:TypeId}{x y:Value}(h:Two w b t x y)(u v:Value):Two ((w.setCell ⟨b,0,none⟩ u).setCell ⟨b,1,none⟩ v) b t u v:=by
 unfold Two at h ⊢;simp[World.setCell,Array.getElem?_modify,h]
theorem qEs{P:Program}{f:Func}{z:Int}{w w2 w3:World}{n:Nat}{sp:Bool}{pa:Option Addr}{pn pc:Nat}{a:Act}(h2:Below n w w2)(h3:Below w2.heap.size w2 w3)(hs:n+1+1+1<=w2.heap.size)
 (ht:Two w3 (n+1+1) 73 (.bool false) (.slice none 0 0))(hm:qAK w2 (.slice pa pn pc) z.natAbs)(hz:decide (z<0)=sp)(hn:w.heap.size=n)
 (hr:∀W:World,W.cell? ⟨n+1+1,0,none⟩=some (.bool sp)->W.cell? ⟨n+1+1,1,none⟩=some (.slice pa pn pc)->(results f a.tmps).run P W=.ok (Value.agg #[.bool sp,.slice pa pn pc]) W)(hd:a.defers=[]):
 bodyPost P f (qPN z w) .ret a ((w3.setCell ⟨n+1+1,0,none⟩ (.bool sp)).setCell ⟨n+1+1,1,none⟩ (.slice pa pn pc)):=by
 have hz2:=(ht.setB (.bool sp) (.slice pa pn pc));refine bodyPost_ret (v:=.agg #[.bool sp,.slice pa pn pc]) (hr _ hz2.cell0 hz2.cell1) hd ⟨pa,pn,pc,by rw[hz],?_,?_⟩
 ·rw[hz]
  have h5:qAd .u32 w3 _ _:=qAd.below hm (Nat.le_refl _) h3;exact⟨_,by rw[hz],qAd.store_two h5 ht (fun _ _ h=>by cases h) (fun _ _ h=>by cases h) _ _⟩
 ·rw[hn]
  exact((h2.trans (h3.mono (by omega))).setCell (p:=⟨n+1+1,0,none⟩) (by show n<=n+1+1;omega) _).setCell (p:=⟨n+1+1,1,none⟩) (by show n<=n+1+1;omega) _
theorem qLG(vx vy:Value)(x y:Int)(w:World)(hx:qAr w vx x)(hy:qAr w vy y)(hlx:x.natAbs<LIM)(hly:y.natAbs<LIM)(hl:(x*y).natAbs<LIM):
 Calls Tryz.prog 52 #[vx,vy] w (qPN (x*y) w):=by
 obtain⟨ax,nx,cx,rfl,hmx⟩:=hx.form;obtain⟨ay,ny,cy,rfl,hmy⟩:=hy.form;obtain⟨n,hn⟩:=eX w.heap.size;have Hn:=hZ hn;obtain⟨W,hW,t1,t2,t3,hBW,hsW⟩:=qDN w 73 (.bool (decide (x<0))) (.slice ax nx cx) (.bool (decide (y<0))) (.slice ay ny cy) (.bool false) (.slice none 0 0) n hn;have Hm:=hZ (qM8 _ _ x y W (hx.below' (Nat.le_of_eq hn) hBW) (hy.below' (Nat.le_of_eq hn) hBW) hlx hly);clear hx hy hmx hmy hlx hly;generalize decide (x<0)=sx at *;generalize decide (y<0)=sy at *;have HBW:=hZ hBW;have T3:=hZ t3;have d0:=t1.cell0;have d1:=t1.cell1;have d2:=t2.cell0;have d3:=t2.cell1;clear t1 t2 t3 hBW
 go_enter Tryz.func52,Tryz.ntmps52
 go_wp2_with fail
 clear hW;refine Hm.o.mono ?_;rintro e w2 hP;obtain⟨pa,pn,pc,rfl,hPm,hB2⟩:=hP.ok hl;have HB2:=hZ (HBW.o.trans (hB2.mono (by omega)));have T32:=T3.o.below hB2 (by omega);have HT3:=hZ T32;have HP:=hZ hPm;have HS2:=hZ (show n+1+1+1<=w2.heap.size by have:=hB2.size;omega);generalize hsp:decide (x*y<0)=sp at *;obtain⟨w3,hw3⟩:=eX (w2.alloc (.cells #[.bool sp,.slice pa pn pc] 73));have HB3:Hid (Below w2.heap.size w2 w3):=hZ (by rw[<-hw3];exact aR);have T5:Two w3 w2.heap.size 73 (.bool sp) (.slice pa pn pc):=by rw[<-hw3];exact Two.new _ _ _ _
 have p0:=T5.cell0;have p1:=T5.cell1;have T33:=T32.below HB3.o (by have:=HS2.o;omega);have g0:=T33.cell0;have g1:=T33.cell1;have f0:=T33.frozen 0;have f1:=T33.frozen 1;have HT33:=hZ T33;clear hP hPm hB2 T32 T5 T33 d0 d1 d2 d3 T3
 go_wp2_with fail
 exact qEs HB2.o HB3.o HS2.o HT33.o HP.o hsp Hn.o (by intro W2 h0 h1;simp[results,Tryz.results52,go_sem,h0,h1]) rfl
theorem qM9(vx vy:Value)(x y:Int)(w:World)(hx:qAr w vx x)(hy:qAr w vy y)(hlx:x.natAbs<LIM)(hly:y.natAbs<LIM)(hl:(x+y).natAbs<LIM):
 Calls Tryz.prog 185 #[vx,vy] w (qPN (x+y) w):=by
 obtain⟨ax,nx,cx,rfl,hmx⟩:=hx.form;obtain⟨ay,ny,cy,rfl,hmy⟩:=hy.form;obtain⟨n,hn⟩:=eX w.heap.size;have Hn:=hZ hn;obtain⟨W,hW,t1,t2,t3,hBW,hsW⟩:=qDN w 73 (.bool (decide (x<0))) (.slice ax nx cx) (.bool (decide (y<0))) (.slice ay ny cy) (.bool false) (.slice none 0 0) n hn;have Hm:=hZ (qKl _ _ x y W (hx.below' (Nat.le_of_eq hn) hBW) (hy.below' (Nat.le_of_eq hn) hBW) hlx hly);clear hx hy hmx hmy hlx hly;generalize decide (x<0)=sx at *;generalize decide (y<0)=sy at *;have HBW:=hZ hBW;have T3:=hZ t3;have d0:=t1.cell0;have d1:=t1.cell1;have d2:=t2.cell0;have d3:=t2.cell1;clear t1 t2 t3 hBW
 go_enter Tryz.func185,Tryz.ntmps185
 go_wp2_with fail
 clear hW;refine Hm.o.mono ?_;rintro e w2 hP;obtain⟨pa,pn,pc,rfl,hPm,hB2⟩:=hP.ok hl;have HB2:=hZ (HBW.o.trans (hB2.mono (by omega)));have T32:=T3.o.below hB2 (by omega);have HT3:=hZ T32;have HP:=hZ hPm;have HS2:=hZ (show n+1+1+1<=w2.heap.size by have:=hB2.size;omega);generalize hsp:decide (x+y<0)=sp at *;obtain⟨w3,hw3⟩:=eX (w2.alloc (.cells #[.bool sp,.slice pa pn pc] 73));have HB3:Hid (Below w2.heap.size w2 w3):=hZ (by rw[<-hw3];exact aR);have T5:Two w3 w2.heap.size 73 (.bool sp) (.slice pa pn pc):=by rw[<-hw3];exact Two.new _ _ _ _
 have p0:=T5.cell0;have p1:=T5.cell1;have T33:=T32.below HB3.o (by have:=HS2.o;omega);have g0:=T33.cell0;have g1:=T33.cell1;have f0:=T33.frozen 0;have f1:=T33.frozen 1;have HT33:=hZ T33;clear hP hPm hB2 T32 T5 T33 d0 d1 d2 d3 T3
 go_wp2_with fail
 exact qEs HB2.o HB3.o HS2.o HT33.o HP.o hsp Hn.o (by intro W2 h0 h1;simp[results,Tryz.results185,go_sem,h0,h1]) rfl
theorem qLI(vx vy:Value)(x y:Int)(w:World)(hx:qAr w vx x)(hy:qAr w vy y)(hlx:x.natAbs<LIM)(hly:y.natAbs<LIM)(hl:(x-y).natAbs<LIM):
 Calls Tryz.prog 51 #[vx,vy] w (qPN (x-y) w):=by
 obtain⟨ax,nx,cx,rfl,hmx⟩:=hx.form;obtain⟨ay,ny,cy,rfl,hmy⟩:=hy.form;obtain⟨n,hn⟩:=eX w.heap.size;have Hn:=hZ hn;obtain⟨W,hW,t1,t2,t3,hBW,hsW⟩:=qDN w 73 (.bool (decide (x<0))) (.slice ax nx cx) (.bool (decide (y<0))) (.slice ay ny cy) (.bool false) (.slice none 0 0) n hn;have Hm:=hZ (qP3 _ _ x y W (hx.below' (Nat.le_of_eq hn) hBW) (hy.below' (Nat.le_of_eq hn) hBW) hlx hly);clear hx hy hmx hmy hlx hly;generalize decide (x<0)=sx at *;generalize decide (y<0)=sy at *;have HBW:=hZ hBW;have T3:=hZ t3;have d0:=t1.cell0;have d1:=t1.cell1;have d2:=t2.cell0;have d3:=t2.cell1;clear t1 t2 t3 hBW
 go_enter Tryz.func51,Tryz.ntmps51
 go_wp2_with fail
 clear hW;refine Hm.o.mono ?_;rintro e w2 hP;obtain⟨pa,pn,pc,rfl,hPm,hB2⟩:=hP.ok hl;have HB2:=hZ (HBW.o.trans (hB2.mono (by omega)));have T32:=T3.o.below hB2 (by omega);have HT3:=hZ T32;have HP:=hZ hPm;have HS2:=hZ (show n+1+1+1<=w2.heap.size by have:=hB2.size;omega);generalize hsp:decide (x-y<0)=sp at *;obtain⟨w3,hw3⟩:=eX (w2.alloc (.cells #[.bool sp,.slice pa pn pc] 73));have HB3:Hid (Below w2.heap.size w2 w3):=hZ (by rw[<-hw3];exact aR);have T5:Two w3 w2.heap.size 73 (.bool sp) (.slice pa pn pc):=by rw[<-hw3];exact Two.new _ _ _ _
 have p0:=T5.cell0;have p1:=T5.cell1;have T33:=T32.below HB3.o (by have:=HS2.o;omega);have g0:=T33.cell0;have g1:=T33.cell1;have f0:=T33.frozen 0;have f1:=T33.frozen 1;have HT33:=hZ T33;clear hP hPm hB2 T32 T5 T33 d0 d1 d2 d3 T3
 go_wp2_with fail
 exact qEs HB2.o HB3.o HS2.o HT33.o HP.o hsp Hn.o (by intro W2 h0 h1;simp[results,Tryz.results51,go_sem,h0,h1]) rfl
theorem qNU(q X x P p b:Nat)(h:q*(X*b+x)<=P*b+p)(hp:p<b):q*X<=P:=by
 have h1:q*(X*b)<=q*(X*b+x):=Nat.mul_le_mul_left _ (by omega);have h2:q*X*b<(P+1)*b:=by
  rw[Nat.mul_assoc,Nat.add_mul,Nat.one_mul];omega
 have:=Nat.lt_of_mul_lt_mul_right h2;omega
structure Est(high d2 top p2 q:Nat):Prop where
 h31:2147483648<=high
 h32:high<W2
 d2l:d2<W2
 p2l:p2<W2
 topl:top<high*W2+W2
 q0:q<W2
 q1:q*high<=top
 q2:q*(high*W2+d2)<=top*W2+p2
structure qR1(high d2 top p2 q digit rest:Nat):Prop where
 eq:digit*high+rest=top
 ge:q<=digit
 dl:digit<=W2+1
 rl:rest<W2
theorem Est.start{high d2 top p2 q:Nat}(h:Est high d2 top p2 q):qR1 high d2 top p2 q (top/high) (top%high):=by
 have hp:0<high:=by have:=h.h31;omega
 have h1:=Nat.div_add_mod top high;refine⟨by rw[Nat.mul_comm];exact h1,(Nat.le_div_iff_mul_le hp).2 h.q1,?_,Nat.lt_trans (Nat.mod_lt _ hp) h.h32⟩;have h2:top<high*(W2+2):=by
  have h3:=h.topl;have h4:=h.h31;rw[Nat.mul_add];unfold W2 at *;omega
 have:=(Nat.div_lt_iff_lt_mul hp).2 (by rw[Nat.mul_comm];exact h2);omega
theorem qR1.less{high d2 top p2 q digit rest:Nat}(h:Est high d2 top p2 q)(hi:qR1 high d2 top p2 q digit rest)(hc:W2<=digit\/(digit<W2/\rest*W2+p2<digit*d2)):
 0<digit/\q<=digit-1/\(digit-1)*high+(rest+high)=top:=by
 have hq:q<digit:=by
  rcases hc with hc|⟨-,hc⟩
  ·exact Nat.lt_of_lt_of_le h.q0 hc
  ·rcases Nat.lt_or_ge q digit with h1|h1
   ·exact h1
   ·have e:q=digit:=Nat.le_antisymm hi.ge h1
    have h2:=h.q2;rw[e,<-hi.eq,Nat.mul_add,Nat.add_mul,<-Nat.mul_assoc]at h2;omega
 refine⟨by omega,by omega,?_⟩;have h1:=hi.eq;obtain⟨d,rfl⟩:∃d,digit=d+1:=⟨digit-1,by omega⟩;rw[Nat.add_sub_cancel];rw[Nat.add_mul,Nat.one_mul]at h1;omega
theorem Est.over{high d2 top p2 q digit rest:Nat}(h:Est high d2 top p2 q)(he:digit*high+rest=top)(hr:W2<=rest):digit<W2:=by
 rcases Nat.lt_or_ge digit W2 with h1|h1
 ·exact h1
 ·have h2:W2*high<=digit*high:=Nat.mul_le_mul_right _ h1
  have h3:=h.topl;rw[Nat.mul_comm high W2]at h3;omega
structure qPu(P D:List Nat)(Q i c b:Nat)(L:List Nat):Prop where
 len:L.length=P.length
 low:Low W2 L
 cl:c<W2
 bl:b<=1
 rest:L.drop i=P.drop i
 eq:val W2 (L.take i)+Q*val W2 (D.take i)=val W2 (P.take i)+(b+c)*W2^i
theorem qPu.start(P D:List Nat)(Q:Nat)(hP:Low W2 P):qPu P D Q 0 0 0 P:=
 ⟨rfl,hP,by decide,by omega,rfl,by simp[val]⟩
theorem qD6(L:List Nat)(i x:Nat)(h:i<L.length):val W2 ((L.set i x).take (i+1))=val W2 (L.take i)+x*W2^i:=by
 have hl:i<(L.set i x).length:=by rw[List.length_set];exact h
 rw[qAj W2 _ i hl,List.getElem_set_self,List.take_set_of_le (Nat.le_refl i)]
theorem qPu.next{P D:List Nat}{Q i c b:Nat}{L:List Nat}(h:qPu P D Q i c b L)(hi:i<L.length)(hd:i<D.length)(hQ:Q<W2)(hD:Low W2 D)(hP:i<P.length):
 qPu P D Q (i+1) ((c+Q*D[i])/W2) (brw P[i] ((c+Q*D[i])%W2) b) (L.set i (dif P[i] ((c+Q*D[i])%W2) b))/\L[i]=P[i]/\c+Q*D[i]<18446744073709551616:=by
 have hLi:L[i]=P[i]:=by
  have h1:=h.rest;rw[List.drop_eq_getElem_cons hi,List.drop_eq_getElem_cons hP]at h1;exact(List.cons.inj h1).1
 have hw:D[i]<W2:=hD _ (List.getElem_mem hd);have hm:Q*D[i]<=4294967295*4294967295:=Nat.mul_le_mul (by unfold W2 at hQ;omega) (by unfold W2 at hw;omega);have hcl:=h.cl;have hPl:P[i]<W2:=by rw[<-hLi];exact h.low _ (List.getElem_mem hi)
 have ht:c+Q*D[i]<18446744073709551616:=by unfold W2 at hcl;omega
 have hlo:(c+Q*D[i])%W2<W2:=Nat.mod_lt _ (by decide);have hdm:=Nat.div_add_mod (c+Q*D[i]) W2;have hde:=qNV P[i] ((c+Q*D[i])%W2) b hlo h.bl;refine⟨⟨by rw[List.length_set];exact h.len,qBe h.low _ _ (qK1 _ _ _ hPl h.bl),?_,qLc _ _ _,?_,?_⟩,hLi,ht⟩
 ·refine(Nat.div_lt_iff_lt_mul (by decide)).2 ?_
  show _<4294967296*4294967296
  omega
 ·rw[List.drop_set_of_lt (by omega)]
  have h1:=h.rest;rw[List.drop_eq_getElem_cons hi,List.drop_eq_getElem_cons hP]at h1;exact(List.cons.inj h1).2
 ·rw[qD6 L i _ hi,qAj W2 D i hd,qAj W2 P i hP,Nat.pow_succ]
  have h1:=h.eq;generalize dif P[i] ((c+Q*D[i])%W2) b=p' at *;generalize brw P[i] ((c+Q*D[i])%W2) b=b' at *;generalize (c+Q*D[i])%W2=lo at *;generalize (c+Q*D[i])/W2=c' at *;generalize W2^i=X at *;generalize val W2 (L.take i)=l at *;generalize val W2 (D.take i)=d at *;generalize val W2 (P.take i)=p at *;generalize D[i]=w at *;generalize P[i]=u at *;generalize W2=B at *
  grind
theorem qPu.last{P D:List Nat}{Q n c b:Nat}{L:List Nat}(h:qPu P D Q n c b L)(hD:D.length=n)(hP:P.length=n+1)(hn:n<P.length)(x f:Nat)(hx:x+(c+b)=P[n]+f*W2):
 val W2 (L.set n x)+Q*val W2 D=val W2 P+f*W2^(n+1):=by
 have hln:n<L.length:=by rw[h.len];exact hn
 have h1:=h.eq;rw[List.take_of_length_le (l:=D) (by omega)]at h1;have h2:val W2 (L.set n x)=val W2 (L.take n)+x*W2^n:=by
  rw[<-qD6 L n x hln,List.take_of_length_le (by rw[List.length_set,h.len];omega)]
 have h3:val W2 P=val W2 (P.take n)+P[n]*W2^n:=by
  rw[<-qAj W2 P n hn,List.take_of_length_le (by omega)]
 rw[h2,h3,Nat.pow_succ];generalize W2^n=X at *;generalize val W2 (L.take n)=l at *;generalize val W2 D=d at *;generalize val W2 (P.take n)=p at *;generalize P[n]=u at *;generalize W2=B at *
 grind
theorem qFl(n:Nat)(h:1<=n):W2^n=W2*W2^(n-1):=by
 obtain⟨m,rfl⟩:∃m,n=m+1:=⟨n-1,by omega⟩;rw[Nat.add_sub_cancel,Nat.pow_succ,Nat.mul_comm]
theorem qOm(P:List Nat)(n:Nat)(hP:P.length=n+1)(hn:1<=n)(h0:n<P.length)(h1:n-1<P.length):val W2 P=(P[n]*W2+P[n-1])*W2^(n-1)+val W2 (P.take (n-1)):=by
 have e1:val W2 P=val W2 (P.take n)+P[n]*W2^n:=by rw[<-qAj W2 P n h0,List.take_of_length_le (by omega)]
 have e2:=qAj W2 P (n-1) h1;rw[show n-1+1=n by omega]at e2;rw[e1,e2,qFl n hn];generalize W2^(n-1)=X;generalize P[n]=a;generalize P[n-1]=b;generalize val W2 (P.take (n-1))=c;generalize W2=B
 grind
theorem qHi(D:List Nat)(n:Nat)(hD:D.length=n)(hn:1<=n)(h1:n-1<D.length):val W2 D=D[n-1]*W2^(n-1)+val W2 (D.take (n-1)):=by
 have e2:=qAj W2 D (n-1) h1;rw[show n-1+1=n by omega,List.take_of_length_le (by omega)]at e2;rw[e2];omega
theorem qCb(P:List Nat)(k:Nat)(hP:Low W2 P)(hk:k<=P.length):val W2 (P.take k)<W2^k:=by
 have:=qBP W2 (by decide) (P.take k) (qEg hP k)
 rwa [List.length_take,Nat.min_eq_left hk]at this
theorem qRI(P D:List Nat)(n:Nat)(hP:P.length=n+1)(hD:D.length=n)(hn:2<=n)(lP:Low W2 P)(lD:Low W2 D)(i0:n<P.length)(i1:n-1<P.length)(i2:n-2<P.length)(j1:n-1<D.length)(j2:n-2<D.length)
 (h31:2147483648<=D[n-1])(hlt:val W2 P<val W2 D*W2):
 Est D[n-1] D[n-2] (P[n]*W2+P[n-1]) P[n-2] (val W2 P/val W2 D):=by
 have eP:=qOm P n hP (by omega) i0 i1;have eD:=qHi D n hD (by omega) j1;have tP:=qCb P (n-1) lP (by omega);have tD:=qCb D (n-1) lD (by omega);have tP2:=qCb P (n-2) lP (by omega);have hh:D[n-1]<W2:=lD _ (List.getElem_mem _);have hq:=Nat.div_mul_le_self (val W2 P) (val W2 D);have sP:=qAj W2 P (n-2) i2;have sD:=qAj W2 D (n-2) j2;rw[show n-2+1=n-1 by omega]at sP sD;have hX:W2^(n-1)=W2*W2^(n-2):=by rw[qFl (n-1) (by omega),Nat.sub_sub]
 have hXp:0<W2^(n-1):=Nat.pow_pos (by decide);refine⟨h31,hh,lD _ (List.getElem_mem _),lP _ (List.getElem_mem _),?_,?_,?_,?_⟩
 ·have h1:(P[n]*W2+P[n-1])*W2^(n-1)<(D[n-1]*W2+W2)*W2^(n-1):=by
   have h2:val W2 D<(D[n-1]+1)*W2^(n-1):=by rw[eD,Nat.add_mul,Nat.one_mul];omega
   have h3:val W2 D*W2<(D[n-1]+1)*W2^(n-1)*W2:=Nat.mul_lt_mul_of_pos_right h2 (by decide);have h4:(D[n-1]+1)*W2^(n-1)*W2=(D[n-1]*W2+W2)*W2^(n-1):=by
    generalize W2^(n-1)=X;generalize D[n-1]=d;generalize W2=B
    grind
   omega
  exact Nat.lt_of_mul_lt_mul_right h1
 ·refine Nat.div_lt_of_lt_mul ?_
  exact hlt
 ·exact qNU _ _ (val W2 (D.take (n-1))) _ (val W2 (P.take (n-1))) (W2^(n-1)) (by rw[<-eD,<-eP];exact hq) tP
 ·refine qNU _ _ (val W2 (D.take (n-2))) _ (val W2 (P.take (n-2))) (W2^(n-2)) ?_ tP2
  have f1:(D[n-1]*W2+D[n-2])*W2^(n-2)+val W2 (D.take (n-2))=val W2 D:=by
   rw[eD,sD,hX];generalize W2^(n-2)=X;generalize D[n-1]=d;generalize D[n-2]=d';generalize W2=B
   grind
  have f2:((P[n]*W2+P[n-1])*W2+P[n-2])*W2^(n-2)+val W2 (P.take (n-2))=val W2 P:=by
   rw[eP,sP,hX];generalize W2^(n-2)=X;generalize P[n]=a;generalize P[n-1]=b;generalize P[n-2]=c;generalize W2=B
   grind
  rw[f1,f2];exact hq
theorem qPg(pb poff pc db doff dc n:Nat)(pn pn1 pn2 dn1 dn2 q:Nat)(w:World)(hn:2<=n)(hn2:n<=1048576)(hpc:n+1<=pc)(hpc2:pc<=9223372036854775807)(hdc:n<=dc)(hdc2:dc<=9223372036854775807)
 (c1:w.cell? ⟨pb,poff+n,none⟩=some (.int .u32 (pn:Int)))(c2:w.cell? ⟨pb,poff+(n-1),none⟩=some (.int .u32 (pn1:Int)))(c3:w.cell? ⟨pb,poff+(n-2),none⟩=some (.int .u32 (pn2:Int)))
 (c4:w.cell? ⟨db,doff+(n-1),none⟩=some (.int .u32 (dn1:Int)))(c5:w.cell? ⟨db,doff+(n-2),none⟩=some (.int .u32 (dn2:Int)))
 (l1:pn<4294967296)(l2:pn1<4294967296)(hE:Est dn1 dn2 (pn*W2+pn1) pn2 q):
 Calls Tryz.prog 158 #[.slice (some ⟨pb,poff,none⟩) (n+1) pc,.slice (some ⟨db,doff,none⟩) n dc] w fun e w'=>∃Q d,e=.returned (.int .u64 (Q:Nat))/\q<=Q/\Q<W2/\w'=w.drewN d:=by
 have HE:=hZ hE;have l3:=hE.h32;have l4:=hE.h31;have l5:=hE.d2l;have l6:=hE.p2l;unfold W2 at l3 l5 l6;have hor:=qMX pn pn1 l1 l2;obtain⟨top,ht⟩:=eX (pn*4294967296+pn1);rw[ht]at hor;have htl:top<18446744073709551616:=by omega
 have Ht:=hZ ht;have hne:((dn1:Int)==0)=false:=by simp;omega
 have i1:(0:Int)<=(n:Int)-1:=by omega
 have i2:(n:Int)-1<(n:Int):=by omega
 have i3:((n:Int)-1).toNat=n-1:=by omega
 have hw1:IntKind.i64.wrap ((n:Int)-1)=(n:Int)-1:=IntWalk.i64_in _ (by omega);clear hE
 go_enter Tryz.func158,Tryz.ntmps158
 go_wp2_with fail
 go_quiet (fail)
 go_wp2_with fail
 obtain⟨W1,hW1⟩:=eX (w.drewN nq);have e1:W1.cell? ⟨pb,poff+(n-2),none⟩=some (.int .u32 (pn2:Int)):=by rw[<-hW1];exact c3
 have e2:W1.cell? ⟨db,doff+(n-2),none⟩=some (.int .u32 (dn2:Int)):=by rw[<-hW1];exact c5
 have HW1:=hZ hW1;rw[hW1];clear hW1 c1 c2 c3 c4 c5 hw1 i1 i2 i3 hor;have HI0:=hZ HE.o.start;rw[show pn*W2+pn1=top from Ht.o]at HI0 HE;obtain⟨D0,hD0⟩:=eX (top/dn1);obtain⟨R0,hR0⟩:=eX (top%dn1);rw[hD0,hR0]at HI0;have q1:(top:Int)/(dn1:Int)=(D0:Int):=by rw[<-hD0,Int.natCast_ediv]
 have q2:(top:Int)%(dn1:Int)=(R0:Int):=by rw[<-hR0,Int.natCast_emod]
 have q3:(top:Int).tdiv (dn1:Int)=(D0:Int):=by rw[Int.tdiv_eq_ediv_of_nonneg (by omega),q1]
 have q4:(top:Int).tmod (dn1:Int)=(R0:Int):=by rw[Int.tmod_eq_emod_of_nonneg (by omega),q2]
 have q5:D0<=4294967297:=HI0.o.dl;have q6:R0<4294967296:=HI0.o.rl;have q7:IntKind.u64.wrap (D0:Int)=(D0:Int):=by rw[IntKind.wrap_u64];omega
 clear hD0 hR0 ht
 go_quiet (fail)
 go_wp2_with fail
 clear q1 q2 q3 q4 q5 q6 q7
 go_loopw [8,9] (fun dv rv wr=>∃(D R d:Nat),dv=.int .u64 (D:Int)/\rv=.int .u64 (R:Int)/\Hid (qR1 dn1 dn2 top pn2 q D R)/\Hid (wr=W1.drewN d)) (fun dv _ _=>qQV dv)
 case atStart=>exact⟨D0,R0,nq,rfl,rfl,HI0,hZ rfl⟩
 case round=>
  obtain⟨D,R,d,rfl,rfl,hI,hw⟩:=hrel;have e3:wr.cell? ⟨pb,poff+(n-2),none⟩=some (.int .u32 (pn2:Int)):=by rw[hw.o];exact e1
  have e4:wr.cell? ⟨db,doff+(n-2),none⟩=some (.int .u32 (dn2:Int)):=by rw[hw.o];exact e2
  have dl:D<=4294967297:=hI.o.dl;have rl:R<4294967296:=hI.o.rl;have i1:(0:Int)<=(n:Int)-2:=by omega
  have i2:(n:Int)-2<(n:Int):=by omega
  have i2':(n:Int)-2<(n:Int)+1:=by omega
  have i3:((n:Int)-2).toNat=n-2:=by omega
  have hw1:IntKind.i64.wrap ((n:Int)-2)=(n:Int)-2:=IntWalk.i64_in _ (by omega);have hret:∀Q:Nat,q<=Q->Q<4294967296->∀d2,∃Q' d',Ending.returned (Value.int .u64 (Q:Int))=.returned (.int .u64 ((Q':Nat):Int))/\q<=Q'/\Q'<W2/\wr.drewN d2=w.drewN d':=fun Q a b d2=>
   ⟨Q,_,rfl,a,b,by rw[hw.o,<-HW1.o,World.drewN_drewN,World.drewN_drewN]⟩
  have Hret:=hZ hret;clear hret;by_cases hbig:4294967296<=D
  ·have hl:=hI.o.less HE.o (.inl hbig)
   have hg:decide (4294967295<(D:Int))=true:=decide_eq_true (by omega);have Hl:=hZ hl;have hDp:=hl.1;clear hl;obtain⟨D1,hD1⟩:=eX (D-1);have hDI:(D:Int)-1=(D1:Int):=by omega
   have hD1l:D1<D:=by omega
   have hD1m:D1<=4294967297:=by omega
   rw[hD1]at Hl;clear hD1;by_cases hov:R+dn1<=4294967295
   ·go_wp2_with fail
    go_quiet (fail)
    go_wp2_with fail
    go_roundw
    case rel=>exact⟨D1,R+dn1,_,rfl,by go_num,hZ ⟨Hl.o.2.2,Hl.o.2.1,hD1m,by unfold W2;omega⟩,hZ (by rw[hw.o,World.drewN_drewN])⟩
    case measure=>simp[qQV];omega
   ·have Hov:=hZ (HE.o.over Hl.o.2.2 (by unfold W2;omega))
    go_wp2_with fail
    go_quiet (fail)
    go_wp2
    go_ret;exact Hret.o D1 Hl.o.2.1 Hov.o _
  ·have hg:decide (4294967295<(D:Int))=false:=decide_eq_false (by omega)
   have hmm:D*dn2<=4294967295*4294967295:=Nat.mul_le_mul (by omega) (by omega);obtain⟨M,hM⟩:=eX (D*dn2);have hMI:(D:Int)*(dn2:Int)=(M:Int):=by rw[<-hM,Int.natCast_mul]
   rw[hM]at hmm;have hMw:IntKind.u64.wrap (M:Int)=(M:Int):=by rw[IntKind.wrap_u64];omega
   have hor:=qMX R pn2 rl l6;obtain⟨N,hN⟩:=eX (R*4294967296+pn2);rw[hN]at hor;have hrw:IntKind.u64.wrap ((R:Int)*4294967296)=(R:Int)*4294967296:=by rw[IntKind.wrap_u64];omega
   have hNl:N<18446744073709551616:=by omega
   by_cases hgt:N<M
   ·have hl:=hI.o.less HE.o (.inr ⟨by unfold W2;omega,by rw[hM];unfold W2;omega⟩)
    have hgM:decide ((N:Int)<(M:Int))=true:=decide_eq_true (by omega);clear hN hM;have Hl:=hZ hl;have hDp:=hl.1;clear hl;obtain⟨D1,hD1⟩:=eX (D-1);have hDI:(D:Int)-1=(D1:Int):=by omega
    have hD1l:D1<D:=by omega
    have hD1m:D1<=4294967297:=by omega
    rw[hD1]at Hl;clear hD1;by_cases hov:R+dn1<=4294967295
    ·go_wp2_with fail
     go_quiet (fail)
     go_wp2_with fail
     go_roundw
     case rel=>exact⟨D1,R+dn1,_,rfl,by go_num,hZ ⟨Hl.o.2.2,Hl.o.2.1,hD1m,by unfold W2;omega⟩,hZ (by rw[hw.o,World.drewN_drewN])⟩
     case measure=>simp[qQV];omega
    ·have Hov:=hZ (HE.o.over Hl.o.2.2 (by unfold W2;omega))
     go_wp2_with fail
     go_quiet (fail)
     go_wp2
     go_ret;exact Hret.o D1 Hl.o.2.1 Hov.o _
   ·have hgM:decide ((N:Int)<(M:Int))=false:=decide_eq_false (by omega)
    have Hge:=hZ hI.o.ge;clear hN hM
    go_wp2_with fail
    go_quiet (fail)
    go_wp2
    go_ret;exact Hret.o D Hge.o (by omega) _
theorem qQK(vp vd:Value)(P D:List Nat)(n:Nat)(w:World)(hp:qAd .u32 w vp P)(hd:qAd .u32 w vd D)(hP:P.length=n+1)(hD:D.length=n)(hn:2<=n)(hn2:n<=1048576)(lP:Low W2 P)(lD:Low W2 D)
 (j1:n-1<D.length)(h31:2147483648<=D[n-1])(hlt:val W2 P<val W2 D*W2):
 Calls Tryz.prog 158 #[vp,vd] w fun e w'=>∃Q d,e=.returned (.int .u64 (Q:Nat))/\val W2 P/val W2 D<=Q/\Q<W2/\w'=w.drewN d:=by
 obtain⟨pa,pc,rfl,p1,p2,hpc⟩:=hp;obtain⟨da,dc,rfl,d1,d2,hdc⟩:=hd;obtain⟨pb,poff,rfl,_,hpcc⟩:=hpc (by omega);obtain⟨db,doff,rfl,_,hdcc⟩:=hdc (by omega);have i0:n<P.length:=by omega
 have i1:n-1<P.length:=by omega
 have i2:n-2<P.length:=by omega
 have j2:n-2<D.length:=by omega
 have hE:=qRI P D n hP hD hn lP lD i0 i1 i2 j1 j2 h31 hlt;have key:=qPg pb poff pc db doff dc n P[n] P[n-1] P[n-2] D[n-1] D[n-2] (val W2 P/val W2 D) w hn hn2 (by omega) p2 (by omega) d2 (hpcc n i0) (hpcc (n-1) i1) (hpcc (n-2) i2) (hdcc (n-1) j1) (hdcc (n-2) j2) (lP _ (List.getElem_mem _)) (lP _ (List.getElem_mem _)) hE;rw[<-hP]at key;rw[hD]at *;exact key
theorem qQm(A P C:List Nat)(i:Nat)(h:i<P.length)(h':A.length+i<(A++P++C).length):(A++P++C)[A.length+i]=P[i]:=by
 rw[List.getElem_append_left (by rw[List.length_append];omega),List.getElem_append_right (by omega)]
 congr 1
 omega
theorem qQl(A P C:List Nat)(i x:Nat)(h:i<P.length):(A++P++C).set (A.length+i) x=A++P.set i x++C:=by
 rw[List.set_append_left _ _ (by rw[List.length_append];omega),List.set_append_right _ _ (by omega),Nat.add_sub_cancel_left]
section
variable {w:World}{g:Nat}{A P C:List Nat}
theorem Blk.mid(h:Blk w g 151 .u32 (A++P++C))(i:Nat)(hi:i<P.length):w.cell? ⟨g,A.length+i,none⟩=some (.int .u32 (P[i]:Int)):=by
 have hl:A.length+i<(A++P++C).length:=by rw[List.length_append,List.length_append];omega
 have:=h.cell (A.length+i) hl;rw[qQm A P C i hi hl]at this;exact this
theorem Blk.midset(h:Blk w g 151 .u32 (A++P++C))(i x:Nat)(hi:i<P.length):Blk (w.setCell ⟨g,A.length+i,none⟩ (.int .u32 (x:Int))) g 151 .u32 (A++P.set i x++C):=by
 have:=h.set (A.length+i) x;rw[qQl A P C i x hi]at this;exact this
end
theorem qPs(t:Nat)(h:t<18446744073709551616):bits BinOp.and IntKind.u64 (t:Int) 4294967295=((t%4294967296:Nat):Int):=by
 have h1:=u64_and_nat t 4294967295 h (by omega);have h2:t &&& 4294967295=t%4294967296:=Nat.and_two_pow_sub_one_eq_mod t 32;rw[h2]at h1;exact h1
theorem qKx(p lo b:Nat)(hp:p<4294967296)(hlo:lo<4294967296)(hb:b<=1)(T D:Int)(hT:T=((p:Int)-lo)%18446744073709551616)(hD:D=(T-b)%18446744073709551616):
 D%4294967296=(dif p lo b:Int)/\D/9223372036854775808=(brw p lo b:Int):=qK0 p lo b hp hlo hb T D hT hD
def qOd(g n Q:Nat)(A Pt C D:List Nat)(w:World)(e:Ending)(w':World):Prop:=
 ∃Pt' f,e=.returned (.bool (decide (f=1)))/\Blk w' g 151 .u32 (A++Pt'++C)/\Pt'.length=n+1/\Low W2 Pt'/\f<=1/\val W2 Pt'+Q*val W2 D=val W2 Pt+f*W2^(n+1)/\qAc (fun k=>k=g) w w'
theorem qHk(g at_ pc db doff dc n Q:Nat)(A Pt C D:List Nat)(w:World)(hA:A.length=at_)(hP:Pt.length=n+1)(hD:D.length=n)(hn2:n<=1048576)(hat:at_<=1048576)(hpc:n+1<=pc)(hpc2:pc<=9223372036854775807)(hdc:n<=dc)(hdc2:dc<=9223372036854775807)(hQ:Q<4294967296)
 (hblk:Blk w g 151 .u32 (A++Pt++C))(lP:Low W2 Pt)(lD:Low W2 D)(hdg:db≠g)(hdb:db<w.heap.size)(hdcc:∀j (h:j<D.length),w.cell? ⟨db,doff+j,none⟩=some (.int .u32 (D[j]:Int))):
 Calls Tryz.prog 159 #[.slice (some ⟨g,at_,none⟩) (n+1) pc,.slice (some ⟨db,doff,none⟩) n dc,.int .u64 (Q:Int)] w (qOd g n Q A Pt C D w):=by
 have HB:=hZ hblk;have HlD:=hZ lD;have Hdc:=hZ hdcc;have HA:=hZ hA;have HP:=hZ hP;have HD:=hZ hD;have HI0:=hZ (qPu.start Pt D Q lP);clear hblk lP lD hdcc hA hP hD
 go_enter Tryz.func159,Tryz.ntmps159
 go_wp2_with fail
 go_loopw [8,9,18] (fun cv bv iv' wr=>∃(i c b:Nat) (L:List Nat),i<=n/\cv=.int .u64 (c:Int)/\bv=.int .u64 (b:Int)/\iv'=.int .i64 (i:Int)/\Hid (qPu Pt D Q i c b L)/\Hid (Blk wr g 151 .u32 (A++L++C))/\Hid (qAc (fun k=>k=g) w wr)) (fun _ _ v _=>n-(intOf v).toNat)
 case atStart=>exact⟨0,0,0,Pt,by omega,rfl,rfl,rfl,HI0,HB,hZ (qAc.refl _ _)⟩
 case round=>
  obtain⟨i,c,b,L,hi,rfl,rfl,rfl,hI,hbl,hO⟩:=hrel;have cl:c<4294967296:=hI.o.cl;have bl:b<=1:=hI.o.bl;have hLl:L.length=n+1:=by rw[hI.o.len,HP.o]
  by_cases hlt:i<n
  ·have hd:i<D.length:=by rw[HD.o];exact hlt
   have hp:i<Pt.length:=by rw[HP.o];omega
   have hl:i<L.length:=by omega
   obtain⟨hN,hLi,ht⟩:=hI.o.next hl hd hQ HlD.o hp;have HN:=hZ hN;have c1:=(hO.o.cell (p:=⟨db,doff+i,none⟩) hdg hdb).trans (Hdc.o i hd);have c2:=hbl.o.mid i hl;rw[HA.o,hLi]at c2;have f2:=hbl.o.frozen (at_+i);have hwl:D[i]<4294967296:=HlD.o _ (List.getElem_mem hd);have hpl:Pt[i]<4294967296:=by rw[<-hLi];exact hI.o.low _ (List.getElem_mem hl)
   have Hset:=hZ (fun(W:World) (x:Nat) (hW:Blk W g 151 .u32 (A++L++C))=>hW.midset i x hl);rw[HA.o]at Hset;generalize D[i]=wd at *;generalize Pt[i]=pp at *;have hmm:Q*wd<=4294967295*4294967295:=Nat.mul_le_mul (by omega) (by omega);obtain⟨M,hM⟩:=eX (Q*wd);have hMI:(Q:Int)*(wd:Int)=(M:Int):=by rw[<-hM,Int.natCast_mul]
   rw[hM]at hmm ht HN;obtain⟨t,htt⟩:=eX (c+M);rw[htt]at ht HN;have htI:(c:Int)+(M:Int)=(t:Int):=by omega
   have hand:=qPs t ht;obtain⟨lo,hlo⟩:=eX (t%4294967296);have hlo':t%W2=lo:=hlo;rw[hlo]at hand;rw[hlo']at HN;have hlol:lo<4294967296:=by omega
   obtain⟨c',hc'⟩:∃c',t/4294967296=c':=⟨_,rfl⟩;have hc'':t/W2=c':=hc';rw[hc'']at HN;have hcI:(t:Int)/4294967296=(c':Int):=by omega
   obtain⟨T,hT⟩:∃T:Int,T=((pp:Int)-lo)%18446744073709551616:=⟨_,rfl⟩;obtain⟨E,hE⟩:∃E:Int,E=(T-b)%18446744073709551616:=⟨_,rfl⟩;have hdw:=hZ (qKx pp lo b hpl hlol bl T E hT hE);have b1:IntKind.u64.wrap ((pp:Int)-lo)=T:=by rw[hT,IntKind.wrap_u64]
   have b2:IntKind.u64.wrap (T-b)=E:=by rw[hE,IntKind.wrap_u64]
   have hT0:0<=T:=by omega
   have hT1:T<=18446744073709551615:=by omega
   have hE0:0<=E:=by omega
   have hE1:E<=18446744073709551615:=by omega
   clear hT hE hM htt hlo hlo' hc' hc'' hN hLi
   go_wp2_with fail
   go_roundw
   case rel=>
    rw[hdw.o.1,hdw.o.2];exact⟨i+1,c',brw pp lo b,L.set i (dif pp lo b),by omega,rfl,rfl,by go_num,HN,hZ (Hset.o wr _ hbl.o),hZ (hO.o.set (p:=⟨g,at_+i,none⟩) rfl _)⟩
   case measure=>simp[intOf];omega
  ·obtain rfl:i=n:=by omega
   have hp:i<Pt.length:=by rw[HP.o];omega
   have hl:i<L.length:=by omega
   have hLi:L[i]=Pt[i]:=by
    have h1:=hI.o.rest;rw[List.drop_eq_getElem_cons hl,List.drop_eq_getElem_cons hp]at h1;exact(List.cons.inj h1).1
   have c2:=hbl.o.mid i hl;rw[HA.o,hLi]at c2;have f2:=hbl.o.frozen (at_+i);have hpl:Pt[i]<4294967296:=by rw[<-hLi];exact hI.o.low _ (List.getElem_mem hl)
   have Hset:=hZ (fun(W:World) (x:Nat) (hW:Blk W g 151 .u32 (A++L++C))=>hW.midset i x hl);rw[HA.o]at Hset;have Hlast:=hZ (fun x f hx=>hI.o.last HD.o HP.o hp x f hx);have Hlow:=hZ hI.o.low;generalize Pt[i]=pp at *;obtain⟨T,hT⟩:∃T:Int,T=((pp:Int)-c)%18446744073709551616:=⟨_,rfl⟩;obtain⟨E,hE⟩:∃E:Int,E=(T-b)%18446744073709551616:=⟨_,rfl⟩;have hdw0:=qKx pp c b hpl cl bl T E hT hE;have b1:IntKind.u64.wrap ((pp:Int)-c)=T:=by rw[hT,IntKind.wrap_u64]
   have b2:IntKind.u64.wrap (T-b)=E:=by rw[hE,IntKind.wrap_u64]
   have hT0:0<=T:=by omega
   have hT1:T<=18446744073709551615:=by omega
   have hE0:0<=E:=by omega
   have hE1:E<=18446744073709551615:=by omega
   have hfe:=qNV pp c b cl bl;have hdl:dif pp c b<W2:=qK1 pp c b hpl bl;have hf1:=qLc pp c b;obtain⟨f,hf⟩:=eX (brw pp c b);obtain⟨x,hx⟩:=eX (dif pp c b);rw[hf,hx]at hdw0;rw[hx]at hdl hfe;rw[hf]at hf1 hfe;have hq1:=hdw0.1;have hq2:=hdw0.2;have Hv:=hZ (Hlast.o x f (by omega));have hres:∀W:World,W=wr.setCell ⟨g,at_+i,none⟩ (.int .u32 (x:Int))->qOd g i Q A Pt C D w (.returned (.bool (decide (f=1)))) W:=by
    rintro W rfl;exact⟨L.set i x,f,rfl,Hset.o wr x hbl.o,by rw[List.length_set];exact hLl,qBe Hlow.o _ _ hdl,hf1,Hv.o,hO.o.set (p:=⟨g,at_+i,none⟩) rfl _⟩
   have Hres:=hZ hres;clear hT hE hf hx hfe hdw0 hLi hres;rcases(show f=0\/f=1 by omega)with rfl|rfl
   ·have hq3:E/9223372036854775808=0:=hq2
    clear hq2
    go_wp2_with fail
    go_ret;exact Hres.o _ rfl
   ·have hq3:E/9223372036854775808=1:=hq2
    clear hq2
    go_wp2_with fail
    go_ret;exact Hres.o _ rfl
theorem qIq(i n at_ g cb sb c x pc:Nat)(A P C:List Nat)(w:World)(hA:A.length=at_)(hP:P.length=n+1)(hi:i<P.length)(hn:n<=1048576)(hat:at_<=1048576)(hpc:n+1<=pc)(hpc2:pc<=9223372036854775807)(hblk:Blk w g 151 .u32 (A++P++C))(hcb:One w cb 173 (.int .u64 (c:Int)))(hsb:One w sb 71 (.slice (some ⟨g,at_,none⟩) (n+1) pc))
 (h1:cb≠g)(h2:sb≠g)(h3:sb≠cb)(hc:c<=1)(hx:x<4294967296)(hlow:Low W2 P):
 Calls Tryz.prog 190 #[.int .i64 (i:Int),.int .u32 (x:Int),.pointer (some ⟨cb,0,none⟩),.pointer (some ⟨sb,0,none⟩)] w fun e w'=>(∃v,e=.returned v)/\
  Blk w' g 151 .u32 (A++P.set i ((c+(P[i]+x))%W2)++C)/\One w' cb 173 (.int .u64 (((c+(P[i]+x))/W2:Nat):Int))/\One w' sb 71 (.slice (some ⟨g,at_,none⟩) (n+1) pc)/\qAc (fun k=>k=g\/k=cb) w w':=by
 have Hblk:=hZ hblk;have Hcb:=hZ hcb;have Hsb:=hZ hsb;have e1:=hblk.mid i hi;rw[hA]at e1;have e2:=hblk.frozen (at_+i);have e3:=hcb.cell;have e4:=hcb.frozen;have e5:=hsb.cell;have hs:P[i]<4294967296:=hlow _ (List.getElem_mem hi);have Hset:=hZ (fun(W:World) (y:Nat) (hW:Blk W g 151 .u32 (A++P++C))=>hW.midset i y hi);rw[hA]at Hset;have hi2:i<n+1:=by omega
 clear hblk hcb hsb hlow hA hP;generalize hS:P[i]=s at *;clear hS;have b1:IntKind.u64.wrap ((s:Int)+x)=(s:Int)+x:=IntWalk.u64_in _ (by omega);have b2:IntKind.u64.wrap ((c:Int)+((s:Int)+x))=(c:Int)+((s:Int)+x):=IntWalk.u64_in _ (by omega)
 go_enter Tryz.func190,Tryz.ntmps190
 go_wp2
 go_region
 go_wp2
 go_end0
 have hr:(((c+(s+x))%W2:Nat):Int)=((c:Int)+((s:Int)+x))%4294967296:=by simp
 have hq:(((c+(s+x))/W2:Nat):Int)=((c:Int)+((s:Int)+x))/4294967296:=by simp
 rw[<-hr,<-hq];refine⟨⟨_,rfl⟩,?_,?_,?_,?_⟩
 ·first|exact((Hset.o _ ((c+(s+x))%W2) (Hblk.o.far (p:=⟨cb,0,none⟩) (Ne.symm h1) _)).far (p:=⟨cb,0,none⟩) (Ne.symm h1) _).drew|(rw[<-List.append_assoc];exact((Hset.o _ ((c+(s+x))%W2) (Hblk.o.far (p:=⟨cb,0,none⟩) (Ne.symm h1) _)).far (p:=⟨cb,0,none⟩) (Ne.symm h1) _).drew)
 ·exact((((Hcb.o.set _).far (p:=⟨g,at_+i,none⟩) h1 _).set _)).drew
 ·exact(((Hsb.o.far (p:=⟨cb,0,none⟩) h3 _).far (p:=⟨g,at_+i,none⟩) h2 _).far (p:=⟨cb,0,none⟩) h3 _).drew
 ·exact((((qAc.refl _ w).set (p:=⟨cb,0,none⟩) (Or.inr rfl) _).set (p:=⟨g,at_+i,none⟩) (Or.inl rfl) _).set (p:=⟨cb,0,none⟩) (Or.inr rfl) _).drew
structure qH1(P D:List Nat)(i c:Nat)(L:List Nat):Prop where
 len:L.length=P.length
 low:Low W2 L
 cl:c<=1
 eq:val W2 L+c*W2^i=val W2 P+val W2 (D.take i)
theorem qH1.start(P D:List Nat)(hP:Low W2 P):qH1 P D 0 0 P:=⟨rfl,hP,by omega,by simp[val]⟩
theorem qLb(c s x:Nat)(hc:c<=1)(hs:s<W2)(hx:x<W2):(c+(s+x))/W2<=1:=by
 have:(c+(s+x))/W2<2:=(Nat.div_lt_iff_lt_mul (by decide)).2 (by unfold W2 at *;omega);omega
theorem qH1.next{P D:List Nat}{i c:Nat}{L:List Nat}(h:qH1 P D i c L)(hl:i<L.length)(hd:i<D.length)(lD:Low W2 D):
 qH1 P D (i+1) ((c+(L[i]+D[i]))/W2) (L.set i ((c+(L[i]+D[i]))%W2)):=by
 refine⟨by rw[List.length_set];exact h.len,qBe h.low _ _ (Nat.mod_lt _ (by decide)),qLb _ _ _ h.cl (h.low _ (List.getElem_mem hl)) (lD _ (List.getElem_mem hd)),?_⟩;rw[qDc L i c D[i] hl,qAj W2 D i hd,Nat.add_mul];have:=h.eq;omega
theorem qH1.last{P D:List Nat}{n c:Nat}{L:List Nat}(h:qH1 P D n c L)(hl:n<L.length)(hD:D.length=n):
 val W2 (L.set n ((c+(L[n]+0))%W2))+(c+(L[n]+0))/W2*W2^(n+1)=val W2 P+val W2 D:=by
 rw[qDc L n c 0 hl,Nat.add_zero];have:=h.eq;rw[List.take_of_length_le (by omega)]at this;exact this
def qPv(g n:Nat)(A Pt C D:List Nat)(w:World)(e:Ending)(w':World):Prop:=
 ∃Pt' f,e=.returned (.bool (decide (f=1)))/\Blk w' g 151 .u32 (A++Pt'++C)/\Pt'.length=n+1/\Low W2 Pt'/\f<=1/\val W2 Pt'+f*W2^(n+1)=val W2 Pt+val W2 D/\qAc (fun k=>k=g) w w'
theorem qIr(g at_ pc db doff dc n:Nat)(A Pt C D:List Nat)(w:World)(hA:A.length=at_)(hP:Pt.length=n+1)(hD:D.length=n)(hn2:n<=1048576)(hat:at_<=1048576)(hpc:n+1<=pc)(hpc2:pc<=9223372036854775807)(hdc:n<=dc)(hdc2:dc<=9223372036854775807)
 (hblk:Blk w g 151 .u32 (A++Pt++C))(lP:Low W2 Pt)(lD:Low W2 D)(hdg:db≠g)(hdb:db<w.heap.size)(hdcc:∀j (h:j<D.length),w.cell? ⟨db,doff+j,none⟩=some (.int .u32 (D[j]:Int))):
 Calls Tryz.prog 160 #[.slice (some ⟨g,at_,none⟩) (n+1) pc,.slice (some ⟨db,doff,none⟩) n dc] w (qPv g n A Pt C D w):=by
 have HB:=hZ hblk;have HlD:=hZ lD;have Hdc:=hZ hdcc;have HA:=hZ hA;have HP:=hZ hP;have HD:=hZ hD;have HI0:=hZ (qH1.start Pt D lP);have hgl:=hblk.lt;clear hblk lP lD hdcc hA hP hD;obtain⟨sb,hsb⟩:=eX w.heap.size;have Hsb:=hZ hsb;obtain⟨w4,hw4⟩:=eX ((w.alloc (.cells #[.slice (some ⟨g,at_,none⟩) (n+1) pc] 71)).alloc (.cells #[.int .u64 0] 173));have hcb0:=One.new (w.alloc (.cells #[.slice (some ⟨g,at_,none⟩) (n+1) pc] 71)) 173 (.int .u64 0);have hsb0:=(One.new w 71 (.slice (some ⟨g,at_,none⟩) (n+1) pc)).alloc (.cells #[.int .u64 0] 173);rw[World.size_alloc,hsb,hw4]at hcb0;rw[hsb,hw4]at hsb0;have Hb4:=hZ ((HB.o.alloc (.cells #[.slice (some ⟨g,at_,none⟩) (n+1) pc] 71)).alloc (.cells #[.int .u64 0] 173));have HO4:Hid (qAc (fun k=>k=g\/k=sb+1) w w4):=hZ (by rw[<-hw4];exact qAc.of_below (((Below.refl w.heap.size w).alloc (Nat.le_refl _) _).alloc (by simp) _));rw[hw4]at Hb4;have Hcb4:=hZ hcb0;have Hsb4:=hZ hsb0;have hgs:g<sb:=by omega
 have hds:db<sb:=by omega
 clear hcb0 hsb0
 go_enter Tryz.func160,Tryz.ntmps160
 go_wp2_with fail
 clear hw4 hsb
 go_loopw [15] (fun i wr=>∃(k c:Nat) (L:List Nat),k<=n/\i=.int .i64 k/\Hid (qH1 Pt D k c L)/\Hid (Blk wr g 151 .u32 (A++L++C))/\Hid (One wr (sb+1) 173 (.int .u64 (c:Int)))/\Hid (One wr sb 71 (.slice (some ⟨g,at_,none⟩) (n+1) pc))/\Hid (qAc (fun k=>k=g\/k=sb+1) w wr)) (fun i _=>n-(intOf i).toNat)
 case atStart=>exact⟨0,0,Pt,by omega,rfl,HI0,Hb4,Hcb4,Hsb4,HO4⟩
 case round=>
  obtain⟨k,c,L,hk,rfl,hI,hbl,hcb,hsb,hO⟩:=hrel;have hLl:L.length=n+1:=by rw[hI.o.len,HP.o]
  have hc1:=hI.o.cl;by_cases hlt:k<n
  ·have hd:k<D.length:=by rw[HD.o];exact hlt
   have hl:k<L.length:=by omega
   have c1:=(hO.o.cell (p:=⟨db,doff+k,none⟩) (by show ¬(db=g\/db=sb+1);omega) (by show db<w.heap.size;exact hdb)).trans (Hdc.o k hd);have hyl:D[k]<4294967296:=HlD.o _ (List.getElem_mem hd);have Hnext:=hZ (hI.o.next hl hd HlD.o);have Hp:=hZ (qIq k n at_ g (sb+1) sb c D[k] pc A L C wr HA.o hLl hl hn2 hat hpc hpc2 hbl.o hcb.o hsb.o (by omega) (by omega) (by omega) hc1 hyl hI.o.low);generalize D[k]=y at *
   go_wp2_with (go_at_call 190;refine Hp.o.mono ?_;rintro e w5 ⟨⟨v5,rfl⟩,q1,q2,q3,q4⟩;have Q1:=hZ q1;have Q2:=hZ q2;have Q3:=hZ q3;have Q4:=hZ q4;clear q1 q2 q3 q4)
   go_roundw
   case rel=>exact⟨k+1,_,_,by omega,by go_num,Hnext,Q1,Q2,Q3,hZ (hO.o.trans Q4.o)⟩
   case measure=>simp[intOf];omega
  ·obtain rfl:k=n:=by omega
   have hl:k<L.length:=by omega
   have Hlast:=hZ (hI.o.last hl HD.o);have Hp:=hZ (qIq k k at_ g (sb+1) sb c 0 pc A L C wr HA.o hLl hl hn2 hat hpc hpc2 hbl.o hcb.o hsb.o (by omega) (by omega) (by omega) hc1 (by omega) hI.o.low);have Hcl:=hZ (qLb c L[k] 0 hc1 (hI.o.low _ (List.getElem_mem hl)) (by decide));have Hlow:=hZ (qBe hI.o.low k ((c+(L[k]+0))%W2) (Nat.mod_lt _ (by decide)));clear hlt;obtain⟨f,hf⟩:=eX ((c+(L[k]+0))/W2);obtain⟨x,hx⟩:=eX ((c+(L[k]+0))%W2);rw[hf,hx]at Hlast Hp;rw[hf]at Hcl;rw[hx]at Hlow;clear hf hx
   go_wp2_with (go_at_call 190;refine Hp.o.mono ?_;rintro e w5 ⟨⟨v5,rfl⟩,q1,q2,q3,q4⟩;have Q1:=hZ q1;have Q2:=hZ q2;have Q3:=hZ q3;have Q4:=hZ q4;have qc:=q2.cell;clear q1 q2 q3 q4)
   go_ret;have hf1:=Hcl.o;refine⟨L.set k x,f,?_,Q1.o,by rw[List.length_set];exact hLl,Hlow.o,hf1,Hlast.o,?_⟩
   ·have:decide (0<f)=decide (f=1):=decide_eq_decide.2 (by omega)
    rw[<-this];rfl
   ·have hO2:=hO.o.trans Q4.o
    exact⟨hO2.os,hO2.tape,hO2.output,hO2.size,fun b hb hne=>hO2.block b hb (fun h=>by
     rcases h with h|h
     ·exact hne h
     ·have:=Hsb.o;omega)⟩
theorem qKw(y:Nat)(h:y<256):∀h',(Lib.len8tab[y]'h').toNat=Lib.bitLen y:=by
 intro h';have e:=Lib.len8_eq ⟨y,h⟩;unfold Lib.len8 at e;simp only[Int.toNat_natCast]at e;have e2:Lib.len8tab[y]? =some (Lib.len8tab[y]'h'):=by simp[h']
 rw[e2]at e;exact Int.ofNat.inj e
theorem qOt:Lib.len8tab.size=256:=by decide +kernel
theorem qNk(x:Nat)(w:World)(h1:x<4294967296):
 Calls Tryz.prog 189 #[.int .u32 (x:Int)] w fun e w'=>e=.returned (.int .i64 (Lib.bitLen x))/\w'=w:=by
 have hs:=qOt;by_cases h2:x<65536
 ·have g2:¬(65536<=(x:Int)):=by omega
  by_cases h3:x<256
  ·have g3:¬(256<=(x:Int)):=by omega
   have hy:x<256:=h3;have Hb:Hid True:=hZ trivial;have hyl:Lib.bitLen x<=8:=Lib.bitLen_le8 ⟨x,hy⟩;have htab:=qKw x hy;generalize Lib.bitLen x=L at *
   go_enter Tryz.func189,Tryz.ntmps189
   go_wp2
   go_ret;refine⟨?_,rfl⟩
   first|rfl|(rw[Hb.o];rfl)
  ·have g3:256<=(x:Int):=by omega
   obtain⟨y,hyx⟩:=eX (x/256);have Hb:Hid (Lib.bitLen x=8+Lib.bitLen y):=hZ (by rw[<-hyx];exact Lib.bitLen_shift8 x (by omega) (by omega));have hy:y<256:=by omega
   have hq:(x:Int)/256=(y:Int):=by omega
   clear hyx;have hyl:Lib.bitLen y<=8:=Lib.bitLen_le8 ⟨y,hy⟩;have htab:=qKw y hy;generalize Lib.bitLen y=L at *
   go_enter Tryz.func189,Tryz.ntmps189
   go_wp2
   go_ret;refine⟨?_,rfl⟩
   first|rfl|(rw[Hb.o];rfl)
 ·have g2:65536<=(x:Int):=by omega
  obtain⟨u,hu⟩:=eX (x/65536);have hqu:(x:Int)/65536=(u:Int):=by omega
  have hul:u<65536:=by omega
  have hb16:=Lib.bitLen_shift16 x (by omega) (by omega);rw[hu]at hb16;by_cases h3:u<256
  ·have g3:¬(256<=(u:Int)):=by omega
   have Hb:Hid (Lib.bitLen x=16+Lib.bitLen u):=hZ hb16;have hy:u<256:=h3;clear hu hb16;have hyl:Lib.bitLen u<=8:=Lib.bitLen_le8 ⟨u,hy⟩;have htab:=qKw u hy;generalize Lib.bitLen u=L at *
   go_enter Tryz.func189,Tryz.ntmps189
   go_wp2
   go_ret;refine⟨?_,rfl⟩
   first|rfl|(rw[Hb.o];rfl)
  ·have g3:256<=(u:Int):=by omega
   obtain⟨y,hyx⟩:=eX (u/256);have hb8:=Lib.bitLen_shift8 u (by omega) (by omega);rw[hyx]at hb8;have Hb:Hid (Lib.bitLen x=24+Lib.bitLen y):=hZ (by omega);have hy:y<256:=by omega
   have hq:(u:Int)/256=(y:Int):=by omega
   clear hyx hu hb16 hb8;have hyl:Lib.bitLen y<=8:=Lib.bitLen_le8 ⟨y,hy⟩;have htab:=qKw y hy;generalize Lib.bitLen y=L at *
   go_enter Tryz.func189,Tryz.ntmps189
   go_wp2
   go_ret;refine⟨?_,rfl⟩
   first|rfl|(rw[Hb.o];rfl)
theorem qLe(x:Nat)(h:x<4294967296):Lib.bitLen x<=32:=Lib.bitLen_le x 32 (by omega) h
theorem qOO(x:Nat)(w:World)(h1:x<4294967296):
 Calls Tryz.prog 156 #[.int .u32 (x:Int)] w fun e w'=>e=.returned (.int .i64 ((32-Lib.bitLen x:Nat):Int))/\w'=w:=by
 have hl:=qLe x h1;have H:=hZ (qNk x w h1);generalize Lib.bitLen x=L at *
 go_enter Tryz.func156,Tryz.ntmps156
 go_wp2_with fail
 refine H.o.mono ?_;rintro e w' ⟨rfl,rfl⟩
 go_wp2
 go_ret;refine⟨?_,rfl⟩;have e:(32:Int)-(L:Int)=((32-L:Nat):Int):=by omega
 rw[<-e];rfl
structure qQ7(A:List Nat)(s N k:Nat)(L:List Nat):Prop where
 len:L.length=N+1
 low:Low W2 L
 lt:∀h:k<L.length,L[k]<2^s
 zero:∀j (h:j<L.length),k<j->L[j]=0
 eq:val W2 L=val W2 (A.take k)*2^s
theorem qQ7.start(A:List Nat)(s N:Nat):qQ7 A s N 0 (List.replicate (N+1) 0):=
 ⟨by simp,fun x hx=>by rw[(List.mem_replicate.1 hx).2];decide,fun h=>by simp[Nat.pow_pos],fun j h _=>by simp,by rw[qCx W2 _ (fun x hx=>(List.mem_replicate.1 hx).2)];simp[val]⟩
theorem qIj(y s c:Nat)(hs:s<32)(hy:y<W2)(hc:c<2^s):c|||(y*2^s%W2)=c+y*2^s%W2/\c+y*2^s%W2<W2/\y*2^s/W2<2^s:=by
 have hW:W2=2^s*2^(32-s):=by rw[<-Nat.pow_add,show s+(32-s)=32 by omega]
 have hp:0<2^s:=Nat.pow_pos (by omega);have hm:y*2^s%W2=2^s*(y%2^(32-s)):=by rw[hW,Nat.mul_comm y,Nat.mul_mod_mul_left]
 have hl:y%2^(32-s)<2^(32-s):=Nat.mod_lt _ (Nat.pow_pos (by omega));refine⟨?_,?_,?_⟩
 ·rw[hm,Nat.or_comm,<-Nat.two_pow_add_eq_or_of_lt hc,Nat.add_comm]
 ·rw[hm]
  have h1:2^s*(y%2^(32-s)+1)<=2^s*2^(32-s):=Nat.mul_le_mul_left _ hl;rw[<-hW,Nat.mul_add,Nat.mul_one]at h1;omega
 ·refine Nat.div_lt_of_lt_mul ?_
  exact Nat.mul_lt_mul_of_pos_right hy hp
theorem qQ7.next{A:List Nat}{s N k:Nat}{L:List Nat}(h:qQ7 A s N k L)(hk:k<L.length)(hk2:k+1<L.length)(ha:k<A.length)(hs:s<32)(hA:Low W2 A):
 qQ7 A s N (k+1) ((L.set k (L[k]+A[k]*2^s%W2)).set (k+1) (A[k]*2^s/W2)):=by
 obtain⟨p1,p2,p3⟩:=qIj A[k] s L[k] hs (hA _ (List.getElem_mem ha)) (h.lt hk);have hsW:2^s<=W2:=by
  have:2^s<=2^32:=Nat.pow_le_pow_right (by omega) (by omega);exact this
 refine⟨by rw[List.length_set,List.length_set];exact h.len,qBe (qBe h.low _ _ p2) _ _ (by omega),fun hh=>by rw[List.getElem_set_self];exact p3,fun j hj hkj=> ?_,?_⟩
 ·rw[List.getElem_set_ne (by omega),List.getElem_set_ne (by omega)]
  exact h.zero j (by rw[List.length_set,List.length_set]at hj;exact hj) (by omega)
 ·have e1:=qCu W2 L k (L[k]+A[k]*2^s%W2) hk
  have hk3:k+1<(L.set k (L[k]+A[k]*2^s%W2)).length:=by rw[List.length_set];exact hk2
  have e2:=qCu W2 (L.set k (L[k]+A[k]*2^s%W2)) (k+1) (A[k]*2^s/W2) hk3;have hz:(L.set k (L[k]+A[k]*2^s%W2))[k+1]=0:=by
   rw[List.getElem_set_ne (by omega)];exact h.zero (k+1) hk2 (by omega)
  rw[hz]at e2;have hd:=Nat.div_add_mod (A[k]*2^s) W2;have h1:=h.eq;rw[qAj W2 A k ha];rw[Nat.pow_succ]at e2;generalize val W2 ((L.set k (L[k]+A[k]*2^s%W2)).set (k+1) (A[k]*2^s/W2))=v2 at *;generalize val W2 (L.set k (L[k]+A[k]*2^s%W2))=v1 at *;generalize A[k]*2^s%W2=lo at *;generalize A[k]*2^s/W2=hi at *;generalize L[k]=c at *;generalize A[k]=y at *;generalize val W2 (A.take k)=a at *;generalize W2^k=X at *;generalize 2^s=S at *;generalize val W2 L=v at *;generalize W2=B at *;clear p1 p2 p3 hz h hA hs hsW
  grind
theorem qFG(va:Value)(A:List Nat)(s:Nat)(w:World)(ha:qAd .u32 w va A)(hA:Low W2 A)(hs:s<32)(hlen:A.length<=1048576):
 Calls Tryz.prog 157 #[va,.int .i64 (s:Int)] w fun e w'=>∃L,e=.returned (.slice (some ⟨w.heap.size,0,none⟩) (A.length+1) (A.length+1))/\Blk w' w.heap.size 151 .u32 L/\Low W2 L/\L.length=A.length+1/\val W2 L=val W2 A*2^s/\Below w.heap.size w w':=by
 obtain⟨i0,hi,hz0,hz1,hz2⟩:=info_parts qE6;have Hi:=hZ hi;have Hz0:=hZ hz0;have Hz1:=hZ hz1;have Hz2:=hZ hz2;clear hi hz0 hz1 hz2;obtain⟨ya,ycap,hvy,y1,y2,hyc⟩:=ha;subst hvy;have Hyc:=hZ hyc;have HlA:=hZ hA;clear hyc hA;obtain⟨N,hN⟩:=eX A.length;have HN:=hZ hN;rw[hN]at hlen y1 ⊢;clear hN
 go_enter Tryz.func157,Tryz.ntmps157
 go_wp2_with (at_make;refine qAD _ rfl _ _ 71 rfl 151 i0 .u32 Tryz.underlying71 Hi.o Hz0.o Hz1.o _ _ _ _ (N+1) rfl rfl (by omega) (by omega) (by rw[Hz2.o];omega) (by omega) ?_)
 intro w1 hblk hB1 hz1;obtain⟨g,hg⟩:=eX w.heap.size;have Hg:=hZ hg;rw[hg]at hblk hB1 hz1 ⊢;have Hblk1:=hZ hblk;have HB1:=hZ hB1;clear hg hblk hB1
 go_wp2_with fail
 go_loopw [15] (fun i wr=>∃(k:Nat) (L:List Nat),k<=N/\i=.int .i64 (k:Int)/\Hid (qQ7 A s N k L)/\Hid (Blk wr g 151 .u32 L)/\Hid (Below g w wr)) (fun i _=>N-(intOf i).toNat)
 case atStart=>exact⟨0,_,by omega,rfl,hZ (qQ7.start A s N),Hblk1,HB1⟩
 case round=>
  obtain⟨k,L,hk,rfl,hI,hbl,hB⟩:=hrel;have hLl:=hI.o.len;by_cases hlt:k<N
  ·have hy:k<A.length:=by rw[HN.o];exact hlt
   obtain⟨b,off,rfl,hb,hcc⟩:=Hyc.o (by omega);rw[Hg.o]at hb;have cy:=(hB.o.cell (p:=⟨b,off+k,none⟩) hb).trans (hcc k hy);have hyl:A[k]<4294967296:=HlA.o _ (List.getElem_mem hy);have cg:=hbl.o.cell k (by omega);have cg2:=hbl.o.cell (k+1) (by omega);have fg:=hbl.o.frozen k;have fg2:=hbl.o.frozen (k+1);have kl:k<L.length:=by omega
   have kl2:k+1<L.length:=by omega
   have Hn:=hZ (hI.o.next kl kl2 hy hs HlA.o);have hcl:=hI.o.lt kl;obtain⟨p1,p2,p3⟩:=qIj A[k] s L[k] hs hyl hcl;have hor:=u32_or_nat L[k] (A[k]*2^s%W2) (hI.o.low _ (List.getElem_mem kl)) (Nat.mod_lt _ (by decide));rw[p1]at hor;have hsW:2^s<=2^31:=Nat.pow_le_pow_right (by omega) (by omega);have htl:A[k]*2^s<=4294967295*2^31:=Nat.mul_le_mul (by omega) hsW;have hcast:((A[k]*2^s:Nat):Int)=(A[k]:Int)*2^s:=by rw[Int.natCast_mul,Int.natCast_pow];rfl
   clear hcc;generalize A[k]=y at *;generalize L[k]=c at *;obtain⟨t,ht⟩:=eX (y*2^s);rw[ht]at hcast Hn hor p2 p3 htl;have hwr:IntKind.u64.wrap ((y:Int)*2^s)=(t:Int):=by rw[<-hcast,IntKind.wrap_u64];omega
   obtain⟨lo,hlo⟩:=eX (t%W2);obtain⟨hi,hhi⟩:=eX (t/W2);have hlo2:t%4294967296=lo:=hlo;have hhi2:t/4294967296=hi:=hhi;rw[hlo]at Hn hor p2;rw[hhi]at Hn p3;have hloI:(t:Int)%4294967296=(lo:Int):=by omega
   have hhiI:(t:Int)/4294967296=(hi:Int):=by omega
   have hhil:hi<4294967296:=by omega
   clear ht hlo hhi hlo2 hhi2 p1 hcast
   go_wp2_with fail
   go_roundw
   case rel=>exact⟨k+1,_,by omega,by go_num,Hn,hZ ((hbl.o.set k _).set (k+1) _),hZ ((hB.o.setCell (p:=⟨g,k,none⟩) (Nat.le_refl _) _).setCell (p:=⟨g,k+1,none⟩) (Nat.le_refl _) _)⟩
   case measure=>simp[intOf];omega
  ·obtain rfl:k=N:=by omega
   have Hv:Hid (val W2 L=val W2 A*2^s):=hZ (by rw[hI.o.eq,List.take_of_length_le (by rw[HN.o];exact Nat.le_refl _)])
   go_wp2_with fail
   go_ret;rw[Hg.o];exact⟨L,rfl,hbl.o,hI.o.low,hLl,Hv.o,hB.o⟩
end Go.Proofs.YtkjhlkngihponaaGreatDoor
