/- The reference's text: all the lines. -/
import Derived.Test.YtpmnbcdjoomgcaaDoorQAPTx3
import Derived.Test.YtpmnbcdjoomgcaaDoorQAPApp
import Derived.Test.YtpmnbcdjoomgcaaDoorQAPPut3
import Derived.Test.YtpmnbcdjoomgcaaDoorQAQSam3
set_option linter.unusedVariables false
set_option linter.unusedSimpArgs false
set_option maxHeartbeats 4000000
set_option maxRecDepth 100000
namespace Go.Proofs.YtpmnbcdjoomgcaaDoor
open Go.RowKit
theorem qHg(d:Dc)(t1 g1 b1 r1 x1:Option Addr)(t2 t3 g2 g3 b2 b3 r2 r3 x2 x3:Nat)(w:World)(hk:d.kind=3\/d.kind=4)(hR0:qAU 74 30 w (.slice r1 r2 r3) d.rows)(hX0:qCA w (.slice x1 x2 x3) d.brs)
 (hsr0:∀r∈d.rows,ShR r)(hrl:d.rows.length<=3)(hxl:d.brs.length<=3)(hbo:∀r∈d.brs,qAj r.1=true/\qAj r.2=true)(hlr:(qAr false d.rows).length<=1000)(hlb:(qBa false d.brs).length<=1000):
 Calls Tryd.prog 51 #[.agg #[.int .i64 d.kind,.string ⟨d.name.toArray⟩,.int .i64 d.at_,.bool d.object,.bool d.mixed,.bool d.coin,.int .i64 d.wear,.int .i64 d.bind,.int .i64 d.level,.int .i64 d.time,.int .i64 d.chance,.int .i64 d.of_,.slice t1 t2 t3,.slice g1 g2 g3,.slice b1 b2 b3,.slice r1 r2 r3,.slice x1 x2 x3]] w fun e w'=>(∃u,e=.returned u/\qCe w' u (qAf d))/\Below w.heap.size w w':=by
 obtain⟨w1,hw1⟩:=eX (w.alloc (.cells #[.int .i64 d.kind,.string ⟨d.name.toArray⟩,.int .i64 d.at_,.bool d.object,.bool d.mixed,.bool d.coin,.int .i64 d.wear,.int .i64 d.bind,.int .i64 d.level,.int .i64 d.time,.int .i64 d.chance,.int .i64 d.of_,.slice t1 t2 t3,.slice g1 g2 g3,.slice b1 b2 b3,.slice r1 r2 r3,.slice x1 x2 x3] 34));have hB1:Below w.heap.size w w1:=by rw[<-hw1];exact qAa _ _
 have hb1:qAy w1 w.heap.size 34 [.int .i64 d.kind,.string ⟨d.name.toArray⟩,.int .i64 d.at_,.bool d.object,.bool d.mixed,.bool d.coin,.int .i64 d.wear,.int .i64 d.bind,.int .i64 d.level,.int .i64 d.time,.int .i64 d.chance,.int .i64 d.of_,.slice t1 t2 t3,.slice g1 g2 g3,.slice b1 b2 b3,.slice r1 r2 r3,.slice x1 x2 x3]:=by rw[<-hw1];exact qAy.new _ _ _
 have hk1:=KpX.of_below (X:=[]) hB1;have hR1:=hR0.kp hk1 (by simp) (by simp);have hX1:=hX0.kp hk1 (by simp);obtain⟨bx,hbx⟩:=eX w.heap.size;rw[hbx]at hb1 hB1;have q0:(d.kind==0)=false:=by simp;omega
 have q2:¬d.kind<=2:=by omega
 have HD:Hid (qAf d=[qAr false d.rows++qBa false d.brs]):=hZ (by unfold qAf;rw[if_neg (by omega),if_neg q2]);have c0:w1.cell? ⟨bx,0,none⟩=some (.int .i64 d.kind):=hb1.cell 0;have HS1:Hid (qAy w1 bx 34 [.int .i64 d.kind,.string ⟨d.name.toArray⟩,.int .i64 d.at_,.bool d.object,.bool d.mixed,.bool d.coin,.int .i64 d.wear,.int .i64 d.bind,.int .i64 d.level,.int .i64 d.time,.int .i64 d.chance,.int .i64 d.of_,.slice t1 t2 t3,.slice g1 g2 g3,.slice b1 b2 b3,.slice r1 r2 r3,.slice x1 x2 x3]/\qAU 74 30 w1 (.slice r1 r2 r3) d.rows/\qCA w1 (.slice x1 x2 x3) d.brs/\Below bx w w1):=hZ ⟨hb1,hR1,hX1,hB1⟩;have hrn:r2=d.rows.length:=by obtain⟨_,_,e, -,-⟩:=TSl.form hR0;injection e
 have hxn:x2=d.brs.length:=by obtain⟨_,_,e, -,-⟩:=TSl.form hX0;injection e
 have HRn:=hZ hrn;have HXn:=hZ hxn;have hr3:r2<=3:=by omega
 have hx3:x2<=3:=by omega
 clear hb1 hB1 hR0 hX0 hk1 hR1 hX1 hk hrl hxl hrn hxn
 go_enter Tryd.func51,Tryd.ntmps51
 go_wp2_with fail
 clear hw1 c0
 go_loopw [4,5] (fun sv iv wr=>∃(j:Nat) (t:Bs),j<=r2/\iv=.int .i64 j/\sv=.string ⟨t.toArray⟩/\Hid (qAr false d.rows=t++qAr (decide (0<j)) (d.rows.drop j))/\t.length<=1000/\Hid (qAy wr bx 34 [.int .i64 d.kind,.string ⟨d.name.toArray⟩,.int .i64 d.at_,.bool d.object,.bool d.mixed,.bool d.coin,.int .i64 d.wear,.int .i64 d.bind,.int .i64 d.level,.int .i64 d.time,.int .i64 d.chance,.int .i64 d.of_,.slice t1 t2 t3,.slice g1 g2 g3,.slice b1 b2 b3,.slice r1 r2 r3,.slice x1 x2 x3]/\qAU 74 30 wr (.slice r1 r2 r3) d.rows/\qCA wr (.slice x1 x2 x3) d.brs/\Below bx w wr)) (fun _ iv _=>r2-(intOf iv).toNat)
 case atStart=>exact⟨0,[],by omega,rfl,rfl,hZ rfl,by simp,HS1⟩
 case round=>
  clear HS1;obtain⟨j,t,hj,rfl,rfl,HE,htl,HS⟩:=hrel;have cw:wr.cell? ⟨bx,15,none⟩=some (.slice r1 r2 r3):=HS.o.1.cell 15;by_cases hlt:j<r2
  ·have h1:j<d.rows.length:=by have:=HRn.o;omega
   obtain⟨gr,o2,cpr,csr,ur,hv,hbr,hur0,hpr⟩:=qAU.nthB HS.o.2.1 j h1;have hsr:=hsr0 _ (List.getElem_mem h1);have hE:=HE.o;rw[qD3 _ j h1]at hE;injection hv with hv hq1 hv2;subst hv hv2;have qb:wr.cell? ⟨gr,o2+j,none⟩=some ur:=by rw[cell_of_row _ gr (o2+j) _ _ _ hbr];exact hur0
   obtain⟨rr,hr⟩:=eX (d.rows[j]);rw[hr]at hsr hpr hE;obtain⟨pn,r,rfl,hpo,hsr⟩:=hsr;obtain⟨p,hp⟩:=eX ((⟨pn,[],0⟩:Pr));have hpo:qAj p.n=true:=by rw[<-hp];exact hpo
   rw[hp]at hpr hE;obtain⟨a9,c9,rfl,hc9,hc99⟩:=TSl.form hpr;obtain⟨gp,op,rfl,htl9⟩:=TSl.tail hpr;have hpz:=qAD.nth hpr 0 (by simp);obtain⟨gq,oq,cq,hv,y0, -,-⟩:=hpz;injection hv with hv hqa hqb;injection hv with hv;injection hv with e1 e2;subst e1 e2;have y0:wr.cell? ⟨gp,op,none⟩=some (.int .i64 p.n):=by simpa using y0
   have hl9:(p::r).length=r.length+1:=rfl;rw[hl9]at qb hc9 hpr htl9;obtain⟨m,hm⟩:=eX r.length;rw[hm]at qb hc9 hpr htl9;have Hm:=hZ hm;have hm3:m<=3:=by have:=hsr.1;omega
   have hnl:=qAi hpo;obtain⟨u,hu⟩:=eX (qAm p.n);obtain⟨q,hq9⟩:=eX (lsT [] r);have Hq:=hZ hq9;have hql:q=prL false r:=by
    rw[<-hq9];unfold lsT;cases r with
    |nil=>rfl
    |cons a l=>rfl
   have hqn:q.length<=100:=by rw[hql];have:=qE5 r false hsr.2.2.1 hsr.2.2.2;have:=hsr.1;omega
   rw[hu]at hnl;have HEE:Hid (qAr false d.rows=(if 0<j then t++[32,43]else t)++[32]++u++[58]++q++qAr (decide (0<j+1)) (d.rows.drop (j+1))):=hZ (by
    rw[hE,hql,<-hu];have:decide (0<j+1)=true:=by simp
    rw[this];by_cases hz:0<j<;>simp[hz,qFN])
   obtain⟨wd,hwd⟩:=eX wr.drew;have hBd:Below wr.heap.size wr wd:=by rw[<-hwd];exact qAc _
   have hkd:=KpX.of_below (X:=[]) hBd;have HSd:Hid (qAy wd bx 34 [.int .i64 d.kind,.string ⟨d.name.toArray⟩,.int .i64 d.at_,.bool d.object,.bool d.mixed,.bool d.coin,.int .i64 d.wear,.int .i64 d.bind,.int .i64 d.level,.int .i64 d.time,.int .i64 d.chance,.int .i64 d.of_,.slice t1 t2 t3,.slice g1 g2 g3,.slice b1 b2 b3,.slice (some ⟨gr,o2,none⟩) r2 r3,.slice x1 x2 x3]/\qAU 74 30 wd (.slice (some ⟨gr,o2,none⟩) r2 r3) d.rows/\qCA wd (.slice x1 x2 x3) d.brs/\Below bx w wd):=hZ (by
    have h9:=HS.o;exact⟨(hBd.block _ h9.1.lt).trans h9.1,h9.2.1.kp hkd (by simp) (by simp),h9.2.2.1.kp hkd (by simp),h9.2.2.2.trans (hBd.mono (by have h8:=h9.2.2.2.size;omega))⟩)
   have HTl:Hid (∀a':Option Addr,(r≠[]->a'=some ⟨gp,op+3,none⟩)->qAD 74 wd (.slice a' (m+1-1) (c9-1)) r):=hZ (fun a' ha=>qAD.kp (htl9 a' ha) hkd (by simp));have q1:=cw;have q2:=qb;have q3:=y0;have hlt2:gr<wd.heap.size:=by have:=qAq hbr;have:=hBd.size;omega
   have hlt3:gp<wd.heap.size:=by
    obtain⟨b',off',cap',es,e1, -, -,hl,-⟩:=TSl.at_ hpr 0 (by simp);injection e1 with e1 e2 e3;injection e1 with e1;injection e1 with e1 e4;have:=hBd.size;omega
   have hn0:(0:Int)<=(j:Int):=by omega
   have hn2:(j:Int)<(r2:Int):=by omega
   have hp5:(0:Int)<((m+1:Nat):Int):=by omega
   clear hBd hkd hE HE hql hq9 hpr htl9 hbr hur0 hl9 hp hr hqa hqb hq1 h1 HS cw qb y0 hm;by_cases hj0:0<j
   ·skip
    have s1:¬9223372036854775807<t.length+2+1:=by omega
    have s2:¬9223372036854775807<t.length+2+1+u.length:=by omega
    have s3:¬9223372036854775807<t.length+2+1+u.length+1:=by omega
    have s4:¬9223372036854775807<t.length+2+1+u.length+1+q.length:=by omega
    have hj1:(0:Int)<(j:Int):=by omega
    by_cases hc1:c9=1
    ·subst hc1
     obtain rfl:m=0:=by omega
     have hr0:r=[]:=List.eq_nil_of_length_eq_zero Hm.o;have hq:lsT [] []=q:=by rw[<-hr0];exact Hq.o
     go_wp2_with fail
     refine qAs [21] (fun W=>W.cell? ⟨bx,15,none⟩=some (.slice (some ⟨gr,o2,none⟩) r2 r3)/\W.cell? ⟨gr,o2+j,none⟩=some (.slice (some ⟨gp,op,none⟩) (0+1) 1)/\W.cell? ⟨gp,op,none⟩=some (.int .i64 p.n)) (by kernel_rfl) (⟨q1,q2,q3⟩) (fun hHeld=> ?_);rw[hwd]at hHeld ⊢;clear hwd q1 q2 q3;refine pU 0 79 ?_;refine pU 1 80 ?_;refine pU 2 81 ?_;refine qAb 3 82 (v:= ?_) rfl rfl (by kernel_rfl) (by kernel_rfl) (by kernel_rfl) (by kernel_rfl) (by kernel_rfl) (fun _ _ _ h=>h) (by rfl) ?_ (by assumption) ?_;rotate_left
     ·(intro w hSw;go_simp;first|done|with_reducible rfl)
     simp only[sX1,sX2,sX3];refine pU 4 83 ?_;refine pU 5 84 ?_;refine qAb 6 85 (v:= ?_) rfl rfl (by kernel_rfl) (by kernel_rfl) (by kernel_rfl) (by kernel_rfl) (by kernel_rfl) (fun _ _ _ h=>h) (by rfl) ?_ (by assumption) ?_;rotate_left
     ·(intro w hSw;go_simp;first|done|with_reducible rfl)
     simp only[sX1,sX2,sX3];refine pU 7 86 ?_;refine pU 8 87 ?_;refine qAb 9 88 (v:= ?_) rfl rfl (by kernel_rfl) (by kernel_rfl) (by kernel_rfl) (by kernel_rfl) (by kernel_rfl) (fun _ _ _ h=>h) (by rfl) ?_ (by assumption) ?_;rotate_left
     ·(intro w hSw;go_simp;first|done|with_reducible rfl)
     simp only[sX1,sX2,sX3];refine qBW 10 89 (v:=.string ⟨u.toArray⟩) rfl rfl (by kernel_rfl) (by kernel_rfl) (by kernel_rfl) (by kernel_rfl) (by kernel_rfl) (fun _ _ _ h=>h) (by rfl) ?_ (by assumption) ?_
     ·(intro w hSw;refine⟨_,_,?_,(by have h9:=qAS p.n hpo w;rw[hu]at h9;exact h9)⟩;go_simp;first|done|with_reducible rfl)
     simp only[sX1,sX2,sX3];refine pU 11 90 ?_;refine pU 12 91 ?_;refine pU 13 92 ?_;refine qAb 14 93 (v:= ?_) rfl rfl (by kernel_rfl) (by kernel_rfl) (by kernel_rfl) (by kernel_rfl) (by kernel_rfl) (fun _ _ _ h=>h) (by rfl) ?_ (by assumption) ?_;rotate_left
     ·(intro w hSw;go_simp;first|done|with_reducible rfl)
     simp only[sX1,sX2,sX3];refine pU 15 94 ?_;refine pU 16 95 ?_;refine qAb 17 96 (v:= ?_) rfl rfl (by kernel_rfl) (by kernel_rfl) (by kernel_rfl) (by kernel_rfl) (by kernel_rfl) (fun _ _ _ h=>h) (by rfl) ?_ (by assumption) ?_;rotate_left
     ·(intro w hSw;go_simp;first|done|with_reducible rfl)
     simp only[sX1,sX2,sX3];refine pU 18 97 ?_;refine eU 19 fun K hK=> ?_;go_simp;refine(qBy [] _ [] wd (TSl.nil _ _ (by omega)) (by decide) (by decide) rfl nofun).mono ?_;rintro e w5 ⟨rfl,hBn⟩;rw[hq];have hkn:=KpX.of_below (X:=[]) hBn;have HS5:Hid (qAy w5 bx 34 [.int .i64 d.kind,.string ⟨d.name.toArray⟩,.int .i64 d.at_,.bool d.object,.bool d.mixed,.bool d.coin,.int .i64 d.wear,.int .i64 d.bind,.int .i64 d.level,.int .i64 d.time,.int .i64 d.chance,.int .i64 d.of_,.slice t1 t2 t3,.slice g1 g2 g3,.slice b1 b2 b3,.slice (some ⟨gr,o2,none⟩) r2 r3,.slice x1 x2 x3]/\qAU 74 30 w5 (.slice (some ⟨gr,o2,none⟩) r2 r3) d.rows/\qCA w5 (.slice x1 x2 x3) d.brs/\Below bx w w5):=hZ ⟨(hBn.block _ HSd.o.1.lt).trans HSd.o.1,HSd.o.2.1.kp hkn (by simp) (by simp),HSd.o.2.2.1.kp hkn (by simp),HSd.o.2.2.2.trans (hBn.mono (by have h9:=HSd.o.2.2.2.size;omega))⟩;have n1:w5.cell? ⟨bx,15,none⟩=some (.slice (some ⟨gr,o2,none⟩) r2 r3):=HS5.o.1.cell 15;have n2:=(hBn.cell (p:=⟨gr,o2+j,none⟩) hlt2).trans hHeld.2.1;have n3:=(hBn.cell (p:=⟨gp,op,none⟩) hlt3).trans hHeld.2.2;clear hBn hkn
     go_wp2_with fail
     refine hK.out _ _ (⟨n1,n2,n3⟩) (fun hHeld=> ?_);clear hK K
     try simp only[Act.put,sX1,sX2,sX3]
     clear n1 n2 n3;refine pU 20 99 ?_;refine lU 21 fun K hK=> ?_;go_simp;refine hK.out _ _ ?_;clear hK K
     try simp only[Act.put,sX1,sX2,sX3]
     refine dU ?_;clear hHeld;clear s1 s2 s3 s4
     go_wp2_with fail
     go_roundw
     case rel=>
      refine⟨j+1,t++[32,43]++[32]++u++[58]++q,by omega,by go_num,?_,hZ ?_,?_,HS5⟩
      ·refine congrArg Value.string ?_
       have e1:=qAh (t++[32,43]) [32];have e2:=qAh (t++[32,43]++[32]) u;have e3:=qAh (t++[32,43]++[32]++u) [58];have e4:=qAh (t++[32,43]++[32]++u++[58]) q;have e44:=qAh t [32,43];rw[<-e4,<-e3,<-e2,<-e1,<-e44]
      ·rw[HEE.o,if_pos hj0];try simp
      ·have h9:=congrArg List.length HEE.o;rw[if_pos hj0]at h9;simp at h9 ⊢;try omega
     case measure=>
      simp[intOf]
      try omega
    ·have hc2:1<c9:=by omega
     have hm1:(1:Int)<=(m:Int)+1:=by omega
     have hq:=Hq.o;have HPt:Hid (qAD 74 wd (.slice (some ⟨gp,op+3,none⟩) m (c9-1)) r):=hZ (by have h9:=HTl.o (some ⟨gp,op+3,none⟩) (fun _=>rfl);rw[show m+1-1=m by omega]at h9;exact h9)
     go_wp2_with fail
     refine qAs [21] (fun W=>W.cell? ⟨bx,15,none⟩=some (.slice (some ⟨gr,o2,none⟩) r2 r3)/\W.cell? ⟨gr,o2+j,none⟩=some (.slice (some ⟨gp,op,none⟩) (m+1) c9)/\W.cell? ⟨gp,op,none⟩=some (.int .i64 p.n)) (by kernel_rfl) (⟨q1,q2,q3⟩) (fun hHeld=> ?_);rw[hwd]at hHeld ⊢;clear hwd q1 q2 q3;refine pU 0 79 ?_;refine pU 1 80 ?_;refine pU 2 81 ?_;refine qAb 3 82 (v:= ?_) rfl rfl (by kernel_rfl) (by kernel_rfl) (by kernel_rfl) (by kernel_rfl) (by kernel_rfl) (fun _ _ _ h=>h) (by rfl) ?_ (by assumption) ?_;rotate_left
     ·(intro w hSw;go_simp;first|done|with_reducible rfl)
     simp only[sX1,sX2,sX3];refine pU 4 83 ?_;refine pU 5 84 ?_;refine qAb 6 85 (v:= ?_) rfl rfl (by kernel_rfl) (by kernel_rfl) (by kernel_rfl) (by kernel_rfl) (by kernel_rfl) (fun _ _ _ h=>h) (by rfl) ?_ (by assumption) ?_;rotate_left
     ·(intro w hSw;go_simp;first|done|with_reducible rfl)
     simp only[sX1,sX2,sX3];refine pU 7 86 ?_;refine pU 8 87 ?_;refine qAb 9 88 (v:= ?_) rfl rfl (by kernel_rfl) (by kernel_rfl) (by kernel_rfl) (by kernel_rfl) (by kernel_rfl) (fun _ _ _ h=>h) (by rfl) ?_ (by assumption) ?_;rotate_left
     ·(intro w hSw;go_simp;first|done|with_reducible rfl)
     simp only[sX1,sX2,sX3];refine qBW 10 89 (v:=.string ⟨u.toArray⟩) rfl rfl (by kernel_rfl) (by kernel_rfl) (by kernel_rfl) (by kernel_rfl) (by kernel_rfl) (fun _ _ _ h=>h) (by rfl) ?_ (by assumption) ?_
     ·(intro w hSw;refine⟨_,_,?_,(by have h9:=qAS p.n hpo w;rw[hu]at h9;exact h9)⟩;go_simp;first|done|with_reducible rfl)
     simp only[sX1,sX2,sX3];refine pU 11 90 ?_;refine pU 12 91 ?_;refine pU 13 92 ?_;refine qAb 14 93 (v:= ?_) rfl rfl (by kernel_rfl) (by kernel_rfl) (by kernel_rfl) (by kernel_rfl) (by kernel_rfl) (fun _ _ _ h=>h) (by rfl) ?_ (by assumption) ?_;rotate_left
     ·(intro w hSw;go_simp;first|done|with_reducible rfl)
     simp only[sX1,sX2,sX3];refine pU 15 94 ?_;refine pU 16 95 ?_;refine qAb 17 96 (v:= ?_) rfl rfl (by kernel_rfl) (by kernel_rfl) (by kernel_rfl) (by kernel_rfl) (by kernel_rfl) (fun _ _ _ h=>h) (by rfl) ?_ (by assumption) ?_;rotate_left
     ·(intro w hSw;go_simp;first|done|with_reducible rfl)
     simp only[sX1,sX2,sX3];refine pU 18 97 ?_;refine eU 19 fun K hK=> ?_;go_simp;refine(qBy [] _ r wd HPt.o (by decide) (by have:=Hm.o;omega) hsr.2.2.1 hsr.2.2.2).mono ?_;rintro e w5 ⟨rfl,hBn⟩;rw[hq];have hkn:=KpX.of_below (X:=[]) hBn;have HS5:Hid (qAy w5 bx 34 [.int .i64 d.kind,.string ⟨d.name.toArray⟩,.int .i64 d.at_,.bool d.object,.bool d.mixed,.bool d.coin,.int .i64 d.wear,.int .i64 d.bind,.int .i64 d.level,.int .i64 d.time,.int .i64 d.chance,.int .i64 d.of_,.slice t1 t2 t3,.slice g1 g2 g3,.slice b1 b2 b3,.slice (some ⟨gr,o2,none⟩) r2 r3,.slice x1 x2 x3]/\qAU 74 30 w5 (.slice (some ⟨gr,o2,none⟩) r2 r3) d.rows/\qCA w5 (.slice x1 x2 x3) d.brs/\Below bx w w5):=hZ ⟨(hBn.block _ HSd.o.1.lt).trans HSd.o.1,HSd.o.2.1.kp hkn (by simp) (by simp),HSd.o.2.2.1.kp hkn (by simp),HSd.o.2.2.2.trans (hBn.mono (by have h9:=HSd.o.2.2.2.size;omega))⟩;have n1:w5.cell? ⟨bx,15,none⟩=some (.slice (some ⟨gr,o2,none⟩) r2 r3):=HS5.o.1.cell 15;have n2:=(hBn.cell (p:=⟨gr,o2+j,none⟩) hlt2).trans hHeld.2.1;have n3:=(hBn.cell (p:=⟨gp,op,none⟩) hlt3).trans hHeld.2.2;clear hBn hkn
     go_wp2_with fail
     refine hK.out _ _ (⟨n1,n2,n3⟩) (fun hHeld=> ?_);clear hK K
     try simp only[Act.put,sX1,sX2,sX3]
     clear n1 n2 n3;refine pU 20 99 ?_;refine lU 21 fun K hK=> ?_;go_simp;refine hK.out _ _ ?_;clear hK K
     try simp only[Act.put,sX1,sX2,sX3]
     refine dU ?_;clear hHeld;clear s1 s2 s3 s4
     go_wp2_with fail
     go_roundw
     case rel=>
      refine⟨j+1,t++[32,43]++[32]++u++[58]++q,by omega,by go_num,?_,hZ ?_,?_,HS5⟩
      ·refine congrArg Value.string ?_
       have e1:=qAh (t++[32,43]) [32];have e2:=qAh (t++[32,43]++[32]) u;have e3:=qAh (t++[32,43]++[32]++u) [58];have e4:=qAh (t++[32,43]++[32]++u++[58]) q;have e44:=qAh t [32,43];rw[<-e4,<-e3,<-e2,<-e1,<-e44]
      ·rw[HEE.o,if_pos hj0];try simp
      ·have h9:=congrArg List.length HEE.o;rw[if_pos hj0]at h9;simp at h9 ⊢;try omega
     case measure=>
      simp[intOf]
      try omega
   ·skip
    have s1:¬9223372036854775807<t.length+1:=by omega
    have s2:¬9223372036854775807<t.length+1+u.length:=by omega
    have s3:¬9223372036854775807<t.length+1+u.length+1:=by omega
    have s4:¬9223372036854775807<t.length+1+u.length+1+q.length:=by omega
    have hj1:¬(0:Int)<(j:Int):=by omega
    by_cases hc1:c9=1
    ·subst hc1
     obtain rfl:m=0:=by omega
     have hr0:r=[]:=List.eq_nil_of_length_eq_zero Hm.o;have hq:lsT [] []=q:=by rw[<-hr0];exact Hq.o
     go_wp2_with fail
     refine qAs [21] (fun W=>W.cell? ⟨bx,15,none⟩=some (.slice (some ⟨gr,o2,none⟩) r2 r3)/\W.cell? ⟨gr,o2+j,none⟩=some (.slice (some ⟨gp,op,none⟩) (0+1) 1)/\W.cell? ⟨gp,op,none⟩=some (.int .i64 p.n)) (by kernel_rfl) (⟨q1,q2,q3⟩) (fun hHeld=> ?_);rw[hwd]at hHeld ⊢;clear hwd q1 q2 q3;refine pU 0 79 ?_;refine pU 1 80 ?_;refine pU 2 81 ?_;refine qAb 3 82 (v:= ?_) rfl rfl (by kernel_rfl) (by kernel_rfl) (by kernel_rfl) (by kernel_rfl) (by kernel_rfl) (fun _ _ _ h=>h) (by rfl) ?_ (by assumption) ?_;rotate_left
     ·(intro w hSw;go_simp;first|done|with_reducible rfl)
     simp only[sX1,sX2,sX3];refine pU 4 83 ?_;refine pU 5 84 ?_;refine qAb 6 85 (v:= ?_) rfl rfl (by kernel_rfl) (by kernel_rfl) (by kernel_rfl) (by kernel_rfl) (by kernel_rfl) (fun _ _ _ h=>h) (by rfl) ?_ (by assumption) ?_;rotate_left
     ·(intro w hSw;go_simp;first|done|with_reducible rfl)
     simp only[sX1,sX2,sX3];refine pU 7 86 ?_;refine pU 8 87 ?_;refine qAb 9 88 (v:= ?_) rfl rfl (by kernel_rfl) (by kernel_rfl) (by kernel_rfl) (by kernel_rfl) (by kernel_rfl) (fun _ _ _ h=>h) (by rfl) ?_ (by assumption) ?_;rotate_left
     ·(intro w hSw;go_simp;first|done|with_reducible rfl)
     simp only[sX1,sX2,sX3];refine qBW 10 89 (v:=.string ⟨u.toArray⟩) rfl rfl (by kernel_rfl) (by kernel_rfl) (by kernel_rfl) (by kernel_rfl) (by kernel_rfl) (fun _ _ _ h=>h) (by rfl) ?_ (by assumption) ?_
     ·(intro w hSw;refine⟨_,_,?_,(by have h9:=qAS p.n hpo w;rw[hu]at h9;exact h9)⟩;go_simp;first|done|with_reducible rfl)
     simp only[sX1,sX2,sX3];refine pU 11 90 ?_;refine pU 12 91 ?_;refine pU 13 92 ?_;refine qAb 14 93 (v:= ?_) rfl rfl (by kernel_rfl) (by kernel_rfl) (by kernel_rfl) (by kernel_rfl) (by kernel_rfl) (fun _ _ _ h=>h) (by rfl) ?_ (by assumption) ?_;rotate_left
     ·(intro w hSw;go_simp;first|done|with_reducible rfl)
     simp only[sX1,sX2,sX3];refine pU 15 94 ?_;refine pU 16 95 ?_;refine qAb 17 96 (v:= ?_) rfl rfl (by kernel_rfl) (by kernel_rfl) (by kernel_rfl) (by kernel_rfl) (by kernel_rfl) (fun _ _ _ h=>h) (by rfl) ?_ (by assumption) ?_;rotate_left
     ·(intro w hSw;go_simp;first|done|with_reducible rfl)
     simp only[sX1,sX2,sX3];refine pU 18 97 ?_;refine eU 19 fun K hK=> ?_;go_simp;refine(qBy [] _ [] wd (TSl.nil _ _ (by omega)) (by decide) (by decide) rfl nofun).mono ?_;rintro e w5 ⟨rfl,hBn⟩;rw[hq];have hkn:=KpX.of_below (X:=[]) hBn;have HS5:Hid (qAy w5 bx 34 [.int .i64 d.kind,.string ⟨d.name.toArray⟩,.int .i64 d.at_,.bool d.object,.bool d.mixed,.bool d.coin,.int .i64 d.wear,.int .i64 d.bind,.int .i64 d.level,.int .i64 d.time,.int .i64 d.chance,.int .i64 d.of_,.slice t1 t2 t3,.slice g1 g2 g3,.slice b1 b2 b3,.slice (some ⟨gr,o2,none⟩) r2 r3,.slice x1 x2 x3]/\qAU 74 30 w5 (.slice (some ⟨gr,o2,none⟩) r2 r3) d.rows/\qCA w5 (.slice x1 x2 x3) d.brs/\Below bx w w5):=hZ ⟨(hBn.block _ HSd.o.1.lt).trans HSd.o.1,HSd.o.2.1.kp hkn (by simp) (by simp),HSd.o.2.2.1.kp hkn (by simp),HSd.o.2.2.2.trans (hBn.mono (by have h9:=HSd.o.2.2.2.size;omega))⟩;have n1:w5.cell? ⟨bx,15,none⟩=some (.slice (some ⟨gr,o2,none⟩) r2 r3):=HS5.o.1.cell 15;have n2:=(hBn.cell (p:=⟨gr,o2+j,none⟩) hlt2).trans hHeld.2.1;have n3:=(hBn.cell (p:=⟨gp,op,none⟩) hlt3).trans hHeld.2.2;clear hBn hkn
     go_wp2_with fail
     refine hK.out _ _ (⟨n1,n2,n3⟩) (fun hHeld=> ?_);clear hK K
     try simp only[Act.put,sX1,sX2,sX3]
     clear n1 n2 n3;refine pU 20 99 ?_;refine lU 21 fun K hK=> ?_;go_simp;refine hK.out _ _ ?_;clear hK K
     try simp only[Act.put,sX1,sX2,sX3]
     refine dU ?_;clear hHeld;clear s1 s2 s3 s4
     go_wp2_with fail
     go_roundw
     case rel=>
      refine⟨j+1,t++[32]++u++[58]++q,by omega,by go_num,?_,hZ ?_,?_,HS5⟩
      ·refine congrArg Value.string ?_
       have e1:=qAh (t) [32];have e2:=qAh (t++[32]) u;have e3:=qAh (t++[32]++u) [58];have e4:=qAh (t++[32]++u++[58]) q
       skip
       rw[<-e4,<-e3,<-e2,<-e1]
      ·rw[HEE.o,if_neg hj0];try simp
      ·have h9:=congrArg List.length HEE.o;rw[if_neg hj0]at h9;simp at h9 ⊢;try omega
     case measure=>
      simp[intOf]
      try omega
    ·have hc2:1<c9:=by omega
     have hm1:(1:Int)<=(m:Int)+1:=by omega
     have hq:=Hq.o;have HPt:Hid (qAD 74 wd (.slice (some ⟨gp,op+3,none⟩) m (c9-1)) r):=hZ (by have h9:=HTl.o (some ⟨gp,op+3,none⟩) (fun _=>rfl);rw[show m+1-1=m by omega]at h9;exact h9)
     go_wp2_with fail
     refine qAs [21] (fun W=>W.cell? ⟨bx,15,none⟩=some (.slice (some ⟨gr,o2,none⟩) r2 r3)/\W.cell? ⟨gr,o2+j,none⟩=some (.slice (some ⟨gp,op,none⟩) (m+1) c9)/\W.cell? ⟨gp,op,none⟩=some (.int .i64 p.n)) (by kernel_rfl) (⟨q1,q2,q3⟩) (fun hHeld=> ?_);rw[hwd]at hHeld ⊢;clear hwd q1 q2 q3;refine pU 0 79 ?_;refine pU 1 80 ?_;refine pU 2 81 ?_;refine qAb 3 82 (v:= ?_) rfl rfl (by kernel_rfl) (by kernel_rfl) (by kernel_rfl) (by kernel_rfl) (by kernel_rfl) (fun _ _ _ h=>h) (by rfl) ?_ (by assumption) ?_;rotate_left
     ·(intro w hSw;go_simp;first|done|with_reducible rfl)
     simp only[sX1,sX2,sX3];refine pU 4 83 ?_;refine pU 5 84 ?_;refine qAb 6 85 (v:= ?_) rfl rfl (by kernel_rfl) (by kernel_rfl) (by kernel_rfl) (by kernel_rfl) (by kernel_rfl) (fun _ _ _ h=>h) (by rfl) ?_ (by assumption) ?_;rotate_left
     ·(intro w hSw;go_simp;first|done|with_reducible rfl)
     simp only[sX1,sX2,sX3];refine pU 7 86 ?_;refine pU 8 87 ?_;refine qAb 9 88 (v:= ?_) rfl rfl (by kernel_rfl) (by kernel_rfl) (by kernel_rfl) (by kernel_rfl) (by kernel_rfl) (fun _ _ _ h=>h) (by rfl) ?_ (by assumption) ?_;rotate_left
     ·(intro w hSw;go_simp;first|done|with_reducible rfl)
     simp only[sX1,sX2,sX3];refine qBW 10 89 (v:=.string ⟨u.toArray⟩) rfl rfl (by kernel_rfl) (by kernel_rfl) (by kernel_rfl) (by kernel_rfl) (by kernel_rfl) (fun _ _ _ h=>h) (by rfl) ?_ (by assumption) ?_
     ·(intro w hSw;refine⟨_,_,?_,(by have h9:=qAS p.n hpo w;rw[hu]at h9;exact h9)⟩;go_simp;first|done|with_reducible rfl)
     simp only[sX1,sX2,sX3];refine pU 11 90 ?_;refine pU 12 91 ?_;refine pU 13 92 ?_;refine qAb 14 93 (v:= ?_) rfl rfl (by kernel_rfl) (by kernel_rfl) (by kernel_rfl) (by kernel_rfl) (by kernel_rfl) (fun _ _ _ h=>h) (by rfl) ?_ (by assumption) ?_;rotate_left
     ·(intro w hSw;go_simp;first|done|with_reducible rfl)
     simp only[sX1,sX2,sX3];refine pU 15 94 ?_;refine pU 16 95 ?_;refine qAb 17 96 (v:= ?_) rfl rfl (by kernel_rfl) (by kernel_rfl) (by kernel_rfl) (by kernel_rfl) (by kernel_rfl) (fun _ _ _ h=>h) (by rfl) ?_ (by assumption) ?_;rotate_left
     ·(intro w hSw;go_simp;first|done|with_reducible rfl)
     simp only[sX1,sX2,sX3];refine pU 18 97 ?_;refine eU 19 fun K hK=> ?_;go_simp;refine(qBy [] _ r wd HPt.o (by decide) (by have:=Hm.o;omega) hsr.2.2.1 hsr.2.2.2).mono ?_;rintro e w5 ⟨rfl,hBn⟩;rw[hq];have hkn:=KpX.of_below (X:=[]) hBn;have HS5:Hid (qAy w5 bx 34 [.int .i64 d.kind,.string ⟨d.name.toArray⟩,.int .i64 d.at_,.bool d.object,.bool d.mixed,.bool d.coin,.int .i64 d.wear,.int .i64 d.bind,.int .i64 d.level,.int .i64 d.time,.int .i64 d.chance,.int .i64 d.of_,.slice t1 t2 t3,.slice g1 g2 g3,.slice b1 b2 b3,.slice (some ⟨gr,o2,none⟩) r2 r3,.slice x1 x2 x3]/\qAU 74 30 w5 (.slice (some ⟨gr,o2,none⟩) r2 r3) d.rows/\qCA w5 (.slice x1 x2 x3) d.brs/\Below bx w w5):=hZ ⟨(hBn.block _ HSd.o.1.lt).trans HSd.o.1,HSd.o.2.1.kp hkn (by simp) (by simp),HSd.o.2.2.1.kp hkn (by simp),HSd.o.2.2.2.trans (hBn.mono (by have h9:=HSd.o.2.2.2.size;omega))⟩;have n1:w5.cell? ⟨bx,15,none⟩=some (.slice (some ⟨gr,o2,none⟩) r2 r3):=HS5.o.1.cell 15;have n2:=(hBn.cell (p:=⟨gr,o2+j,none⟩) hlt2).trans hHeld.2.1;have n3:=(hBn.cell (p:=⟨gp,op,none⟩) hlt3).trans hHeld.2.2;clear hBn hkn
     go_wp2_with fail
     refine hK.out _ _ (⟨n1,n2,n3⟩) (fun hHeld=> ?_);clear hK K
     try simp only[Act.put,sX1,sX2,sX3]
     clear n1 n2 n3;refine pU 20 99 ?_;refine lU 21 fun K hK=> ?_;go_simp;refine hK.out _ _ ?_;clear hK K
     try simp only[Act.put,sX1,sX2,sX3]
     refine dU ?_;clear hHeld;clear s1 s2 s3 s4
     go_wp2_with fail
     go_roundw
     case rel=>
      refine⟨j+1,t++[32]++u++[58]++q,by omega,by go_num,?_,hZ ?_,?_,HS5⟩
      ·refine congrArg Value.string ?_
       have e1:=qAh (t) [32];have e2:=qAh (t++[32]) u;have e3:=qAh (t++[32]++u) [58];have e4:=qAh (t++[32]++u++[58]) q
       skip
       rw[<-e4,<-e3,<-e2,<-e1]
      ·rw[HEE.o,if_neg hj0];try simp
      ·have h9:=congrArg List.length HEE.o;rw[if_neg hj0]at h9;simp at h9 ⊢;try omega
     case measure=>
      simp[intOf]
      try omega
  ·have hn2:¬(j:Int)<(r2:Int):=by omega
   have HT1:Hid (t=qAr false d.rows):=hZ (by
    have h9:=HE.o;rw[List.drop_of_length_le (by have:=HRn.o;omega)]at h9;rw[h9];simp[qAr])
   have HS0:=HS;clear HE HS
   go_wp2_with fail
   clear cw
   go_loopw [4,6] (fun sv iv wr=>∃(k:Nat) (t':Bs),k<=x2/\iv=.int .i64 k/\sv=.string ⟨t'.toArray⟩/\Hid (t++qBa false d.brs=t'++qBa (decide (0<k)) (d.brs.drop k))/\t'.length<=2000/\Hid (qAy wr bx 34 [.int .i64 d.kind,.string ⟨d.name.toArray⟩,.int .i64 d.at_,.bool d.object,.bool d.mixed,.bool d.coin,.int .i64 d.wear,.int .i64 d.bind,.int .i64 d.level,.int .i64 d.time,.int .i64 d.chance,.int .i64 d.of_,.slice t1 t2 t3,.slice g1 g2 g3,.slice b1 b2 b3,.slice r1 r2 r3,.slice x1 x2 x3]/\qAU 74 30 wr (.slice r1 r2 r3) d.rows/\qCA wr (.slice x1 x2 x3) d.brs/\Below bx w wr)) (fun _ iv _=>x2-(intOf iv).toNat)
   case atStart=>exact⟨0,t,by omega,rfl,rfl,hZ rfl,by omega,HS0⟩
   case round=>
    clear HS0;obtain⟨k,t',hk,rfl,rfl,HE,htl',HS⟩:=hrel;have cw:wr.cell? ⟨bx,16,none⟩=some (.slice x1 x2 x3):=HS.o.1.cell 16;by_cases hlt:k<x2
    ·have h1:k<d.brs.length:=by have:=HXn.o;omega
     obtain⟨gx,ox,cpx,hv,q2,q3⟩:=qCA.nth HS.o.2.2.1 k h1;injection hv with hv hq1 hv2;subst hv hv2;have hE:=HE.o;rw[qEE _ k h1]at hE;have hpb:=hbo _ (List.getElem_mem h1);obtain⟨p1,hp1'⟩:∃x,d.brs[k].1=x:=⟨_,rfl⟩;obtain⟨p2,hp2'⟩:∃x,d.brs[k].2=x:=⟨_,rfl⟩;rw[hp1']at q2 hE hpb;rw[hp2']at q3 hE hpb;obtain⟨hp1,hp2⟩:=hpb;have hn1:=qAi hp1;have hn2:=qAi hp2;obtain⟨u,hu⟩:=eX (qAm p1);obtain⟨q,hq⟩:=eX (qAm p2);rw[hu]at hn1 hE;rw[hq]at hn2 hE;have HEE:Hid (t++qBa false d.brs=(if 0<k then t'++[44]else t')++[32]++u++[58,32]++q++qBa (decide (0<k+1)) (d.brs.drop (k+1))):=hZ (by
      rw[hE];have:decide (0<k+1)=true:=by simp
      rw[this];by_cases hz:0<k<;>simp[hz])
     obtain⟨wd,hwd⟩:=eX wr.drew;have hBd:Below wr.heap.size wr wd:=by rw[<-hwd];exact qAc _
     have hkd:=KpX.of_below (X:=[]) hBd;have HSd:Hid (qAy wd bx 34 [.int .i64 d.kind,.string ⟨d.name.toArray⟩,.int .i64 d.at_,.bool d.object,.bool d.mixed,.bool d.coin,.int .i64 d.wear,.int .i64 d.bind,.int .i64 d.level,.int .i64 d.time,.int .i64 d.chance,.int .i64 d.of_,.slice t1 t2 t3,.slice g1 g2 g3,.slice b1 b2 b3,.slice r1 r2 r3,.slice (some ⟨gx,ox,none⟩) x2 x3]/\qAU 74 30 wd (.slice r1 r2 r3) d.rows/\qCA wd (.slice (some ⟨gx,ox,none⟩) x2 x3) d.brs/\Below bx w wd):=hZ (by
      have h9:=HS.o;exact⟨(hBd.block _ h9.1.lt).trans h9.1,h9.2.1.kp hkd (by simp) (by simp),h9.2.2.1.kp hkd (by simp),h9.2.2.2.trans (hBd.mono (by have h8:=h9.2.2.2.size;omega))⟩)
     have q1:=cw;have hn0:(0:Int)<=(k:Int):=by omega
     have hn3:(k:Int)<(x2:Int):=by omega
     have htb:(t++qBa false d.brs).length<=2000:=by rw[List.length_append];omega
     clear hBd hkd hE HE hp1' hp2' hq1 h1 HS cw;by_cases hk0:0<k
     ·skip
      have s1:¬9223372036854775807<t'.length+1+1:=by omega
      have s2:¬9223372036854775807<t'.length+1+1+u.length:=by omega
      have s3:¬9223372036854775807<t'.length+1+1+u.length+2:=by omega
      have s4:¬9223372036854775807<t'.length+1+1+u.length+2+q.length:=by omega
      have hk1:(0:Int)<(k:Int):=by omega
      go_wp2_with fail
      refine qAs [19] (fun W=>W.cell? ⟨bx,16,none⟩=some (.slice (some ⟨gx,ox,none⟩) x2 x3)/\W.cell? ⟨gx,ox+k*2,none⟩=some (.int .i64 p1)/\W.cell? ⟨gx,ox+k*2+1,none⟩=some (.int .i64 p2)) (by kernel_rfl) (⟨q1,q2,q3⟩) (fun hHeld=> ?_);rw[hwd]at hHeld ⊢;clear hwd q1 q2 q3;refine pU 0 111 ?_;refine pU 1 112 ?_;refine pU 2 113 ?_;refine qAb 3 114 (v:= ?_) rfl rfl (by kernel_rfl) (by kernel_rfl) (by kernel_rfl) (by kernel_rfl) (by kernel_rfl) (fun _ _ _ h=>h) (by rfl) ?_ (by assumption) ?_;rotate_left
      ·(intro w hSw;go_simp;first|done|with_reducible rfl)
      simp only[sX1,sX2,sX3];refine pU 4 115 ?_;refine pU 5 116 ?_;refine pU 6 117 ?_;refine qAb 7 118 (v:= ?_) rfl rfl (by kernel_rfl) (by kernel_rfl) (by kernel_rfl) (by kernel_rfl) (by kernel_rfl) (fun _ _ _ h=>h) (by rfl) ?_ (by assumption) ?_;rotate_left
      ·(intro w hSw;go_simp;first|done|with_reducible rfl)
      simp only[sX1,sX2,sX3];refine qBW 8 119 (v:=.string ⟨u.toArray⟩) rfl rfl (by kernel_rfl) (by kernel_rfl) (by kernel_rfl) (by kernel_rfl) (by kernel_rfl) (fun _ _ _ h=>h) (by rfl) ?_ (by assumption) ?_
      ·(intro w hSw;refine⟨_,_,?_,(by have h9:=qAS p1 hp1 w;rw[hu]at h9;exact h9)⟩;go_simp;first|done|with_reducible rfl)
      simp only[sX1,sX2,sX3];refine pU 9 120 ?_;refine pU 10 121 ?_;refine pU 11 122 ?_;refine qAb 12 123 (v:= ?_) rfl rfl (by kernel_rfl) (by kernel_rfl) (by kernel_rfl) (by kernel_rfl) (by kernel_rfl) (fun _ _ _ h=>h) (by rfl) ?_ (by assumption) ?_;rotate_left
      ·(intro w hSw;go_simp;first|done|with_reducible rfl)
      simp only[sX1,sX2,sX3];refine pU 13 124 ?_;refine pU 14 125 ?_;refine pU 15 126 ?_;refine qAb 16 127 (v:= ?_) rfl rfl (by kernel_rfl) (by kernel_rfl) (by kernel_rfl) (by kernel_rfl) (by kernel_rfl) (fun _ _ _ h=>h) (by rfl) ?_ (by assumption) ?_;rotate_left
      ·(intro w hSw;go_simp;first|done|with_reducible rfl)
      simp only[sX1,sX2,sX3];refine qBW 17 128 (v:=.string ⟨q.toArray⟩) rfl rfl (by kernel_rfl) (by kernel_rfl) (by kernel_rfl) (by kernel_rfl) (by kernel_rfl) (fun _ _ _ h=>h) (by rfl) ?_ (by assumption) ?_
      ·(intro w hSw;refine⟨_,_,?_,(by have h9:=qAS p2 hp2 w;rw[hq]at h9;exact h9)⟩;go_simp;first|done|with_reducible rfl)
      simp only[sX1,sX2,sX3];refine pU 18 129 ?_;refine lU 19 fun K hK=> ?_;go_simp;refine hK.out _ _ ?_;clear hK K
      try simp only[Act.put,sX1,sX2,sX3]
      refine dU ?_;clear hHeld;clear s1 s2 s3 s4
      go_wp2_with fail
      go_roundw
      case rel=>
       refine⟨k+1,t'++[44]++[32]++u++[58,32]++q,by omega,by go_num,?_,hZ ?_,?_,HSd⟩
       ·refine congrArg Value.string ?_
        have e1:=qAh (t'++[44]) [32];have e2:=qAh (t'++[44]++[32]) u;have e3:=qAh (t'++[44]++[32]++u) [58,32];have e4:=qAh (t'++[44]++[32]++u++[58,32]) q;have e44:=qAh t' [44];rw[<-e4,<-e3,<-e2,<-e1,<-e44]
       ·rw[HEE.o,if_pos hk0];try simp
       ·have h9:=congrArg List.length HEE.o;rw[if_pos hk0]at h9;simp at h9 ⊢;try omega
      case measure=>
       simp[intOf]
       try omega
     ·skip
      have s1:¬9223372036854775807<t'.length+1:=by omega
      have s2:¬9223372036854775807<t'.length+1+u.length:=by omega
      have s3:¬9223372036854775807<t'.length+1+u.length+2:=by omega
      have s4:¬9223372036854775807<t'.length+1+u.length+2+q.length:=by omega
      have hk1:¬(0:Int)<(k:Int):=by omega
      go_wp2_with fail
      refine qAs [19] (fun W=>W.cell? ⟨bx,16,none⟩=some (.slice (some ⟨gx,ox,none⟩) x2 x3)/\W.cell? ⟨gx,ox+k*2,none⟩=some (.int .i64 p1)/\W.cell? ⟨gx,ox+k*2+1,none⟩=some (.int .i64 p2)) (by kernel_rfl) (⟨q1,q2,q3⟩) (fun hHeld=> ?_);rw[hwd]at hHeld ⊢;clear hwd q1 q2 q3;refine pU 0 111 ?_;refine pU 1 112 ?_;refine pU 2 113 ?_;refine qAb 3 114 (v:= ?_) rfl rfl (by kernel_rfl) (by kernel_rfl) (by kernel_rfl) (by kernel_rfl) (by kernel_rfl) (fun _ _ _ h=>h) (by rfl) ?_ (by assumption) ?_;rotate_left
      ·(intro w hSw;go_simp;first|done|with_reducible rfl)
      simp only[sX1,sX2,sX3];refine pU 4 115 ?_;refine pU 5 116 ?_;refine pU 6 117 ?_;refine qAb 7 118 (v:= ?_) rfl rfl (by kernel_rfl) (by kernel_rfl) (by kernel_rfl) (by kernel_rfl) (by kernel_rfl) (fun _ _ _ h=>h) (by rfl) ?_ (by assumption) ?_;rotate_left
      ·(intro w hSw;go_simp;first|done|with_reducible rfl)
      simp only[sX1,sX2,sX3];refine qBW 8 119 (v:=.string ⟨u.toArray⟩) rfl rfl (by kernel_rfl) (by kernel_rfl) (by kernel_rfl) (by kernel_rfl) (by kernel_rfl) (fun _ _ _ h=>h) (by rfl) ?_ (by assumption) ?_
      ·(intro w hSw;refine⟨_,_,?_,(by have h9:=qAS p1 hp1 w;rw[hu]at h9;exact h9)⟩;go_simp;first|done|with_reducible rfl)
      simp only[sX1,sX2,sX3];refine pU 9 120 ?_;refine pU 10 121 ?_;refine pU 11 122 ?_;refine qAb 12 123 (v:= ?_) rfl rfl (by kernel_rfl) (by kernel_rfl) (by kernel_rfl) (by kernel_rfl) (by kernel_rfl) (fun _ _ _ h=>h) (by rfl) ?_ (by assumption) ?_;rotate_left
      ·(intro w hSw;go_simp;first|done|with_reducible rfl)
      simp only[sX1,sX2,sX3];refine pU 13 124 ?_;refine pU 14 125 ?_;refine pU 15 126 ?_;refine qAb 16 127 (v:= ?_) rfl rfl (by kernel_rfl) (by kernel_rfl) (by kernel_rfl) (by kernel_rfl) (by kernel_rfl) (fun _ _ _ h=>h) (by rfl) ?_ (by assumption) ?_;rotate_left
      ·(intro w hSw;go_simp;first|done|with_reducible rfl)
      simp only[sX1,sX2,sX3];refine qBW 17 128 (v:=.string ⟨q.toArray⟩) rfl rfl (by kernel_rfl) (by kernel_rfl) (by kernel_rfl) (by kernel_rfl) (by kernel_rfl) (fun _ _ _ h=>h) (by rfl) ?_ (by assumption) ?_
      ·(intro w hSw;refine⟨_,_,?_,(by have h9:=qAS p2 hp2 w;rw[hq]at h9;exact h9)⟩;go_simp;first|done|with_reducible rfl)
      simp only[sX1,sX2,sX3];refine pU 18 129 ?_;refine lU 19 fun K hK=> ?_;go_simp;refine hK.out _ _ ?_;clear hK K
      try simp only[Act.put,sX1,sX2,sX3]
      refine dU ?_;clear hHeld;clear s1 s2 s3 s4
      go_wp2_with fail
      go_roundw
      case rel=>
       refine⟨k+1,t'++[32]++u++[58,32]++q,by omega,by go_num,?_,hZ ?_,?_,HSd⟩
       ·refine congrArg Value.string ?_
        have e1:=qAh (t') [32];have e2:=qAh (t'++[32]) u;have e3:=qAh (t'++[32]++u) [58,32];have e4:=qAh (t'++[32]++u++[58,32]) q
        skip
        rw[<-e4,<-e3,<-e2,<-e1]
       ·rw[HEE.o,if_neg hk0];try simp
       ·have h9:=congrArg List.length HEE.o;rw[if_neg hk0]at h9;simp at h9 ⊢;try omega
      case measure=>
       simp[intOf]
       try omega
    ·have hn3:¬(k:Int)<(x2:Int):=by omega
     have HT2:Hid (qAr false d.rows++qBa false d.brs=t'):=hZ (by
      have h9:=HE.o;rw[List.drop_of_length_le (by have:=HXn.o;omega)]at h9;rw[<-HT1.o,h9];simp[qBa])
     obtain⟨wz,hwz⟩:=eX (wr.alloc (.cells #[.string ⟨t'.toArray⟩] 9));have hBz:Below wr.heap.size wr wz:=by rw[<-hwz];exact qAa _ _
     have HST:Hid (qCe wz (.slice (some ⟨wr.heap.size,0,none⟩) 1 1) [t']):=hZ (by rw[<-hwz];exact qCe.lit wr [t'] 1 rfl (by decide));have HB:Hid (Below bx w wz):=hZ (by
      have h8:=HS.o.2.2.2;have h9:=h8.trans (hBz.mono (by have h7:=h8.size;omega));exact h9)
     clear HE HS hBz
     go_wp2_with fail
     clear hwz;go_ret;exact⟨⟨_,rfl,by rw[HD.o,HT2.o];exact HST.o⟩,HB.o⟩
theorem qHh(d:Dc)(y:Ls)(w:World)(hd:Gd d)(hy:LRef w d y):
 Calls Tryd.prog 51 #[.agg (dcC d y).toArray] w fun e w'=>(∃u,e=.returned u/\qCe w' u (qAf d))/\Below w.heap.size w w':=by
 obtain⟨hs, -,-⟩:=qBE hd.err;obtain⟨h1,h2⟩:=qDp hs;obtain⟨t1,t3,e1, -,-⟩:=TSl.form hy.t;obtain⟨g1,g3,e2, -,-⟩:=TSl.form hy.g;obtain⟨b1,b3,e3, -,-⟩:=TSl.form hy.b;obtain⟨r1,r3,e4, -,-⟩:=TSl.form hy.r;obtain⟨x1,x3,e5, -,-⟩:=TSl.form hy.x;have hT:=hy.t;have hG:=hy.g;have hB:=hy.b;have hR:=hy.r;have hX:=hy.x;rw[e1]at hT;rw[e2]at hG;rw[e3]at hB;rw[e4]at hR;rw[e5]at hX;unfold dcC;rw[e1,e2,e3,e4,e5];have hk:d.kind=0\/(d.kind=1\/d.kind=2)\/(d.kind=3\/d.kind=4):=by omega
 rcases hk with hk|hk|hk
 ·exact qGe d t1 g1 b1 r1 x1 _ t3 _ g3 _ b3 _ r3 _ x3 w hk hd.num.1 hd.num.2.1 (qIP hs)
 ·exact qGd d t1 g1 b1 r1 x1 _ t3 _ g3 _ b3 _ r3 _ x3 w hk hd.num.2.1 hd.num.2.2.1 hd.num.2.2.2.1 hd.num.2.2.2.2 hT hG hB ⟨hd.tk,hd.gv,hd.bk⟩
 ·have hlr:=qDh d.rows false hd.rw
  have hlb:=qD4 d.brs false hd.bok;have:=hd.rl;have:=hd.bl;exact qHg d t1 g1 b1 r1 x1 _ t3 _ g3 _ b3 _ r3 _ x3 w hk hR hX hd.rw hd.rl hd.bl hd.bok (by omega) (by omega)
theorem qHo(d:Dc):(qAf d).length=6\/(qAf d).length=1:=by
 unfold qAf
 split
 ·exact .inl rfl
 ·split
  ·exact .inl rfl
  ·exact .inr rfl
theorem qJy(n:Int)(h:0<=n/\n<=4):(([[105,116,101,109],[114,117,108,101],[115,112,97,119,110],[108,111,111,116],[116,97,120]]:List Bs).map fun s=>Value.string ⟨s.toArray⟩)[n.toNat]? =some (.string ⟨(qAo.getD n.toNat []).toArray⟩):=by
 have:n=0\/n=1\/n=2\/n=3\/n=4:=by omega
 rcases this with rfl|rfl|rfl|rfl|rfl<;>rfl
theorem qIt(n:Int)(h:0<=n/\n<=4):(qAo.getD n.toNat []).length<=5:=by
 have:n=0\/n=1\/n=2\/n=3\/n=4:=by omega
 rcases this with rfl|rfl|rfl|rfl|rfl<;>decide
theorem qKF(l:List Bs)(a i:Nat)(ha:a<l.length)(hi:i<l.length):∃h:(i+a)%l.length<l.length,(l.drop a++l.take a).drop i=l[(i+a)%l.length]::(l.drop a++l.take a).drop (i+1):=by
 have hm:(i+a)%l.length<l.length:=Nat.mod_lt _ (by omega);refine⟨hm,?_⟩;have hl:i<(l.drop a++l.take a).length:=by rw[List.length_append,List.length_drop,List.length_take];omega
 rw[List.drop_eq_getElem_cons hl]
 congr 1
 by_cases h:i<l.length-a
 ·rw[List.getElem_append_left (by rw[List.length_drop];omega),List.getElem_drop]
  congr 1
  rw[Nat.mod_eq_of_lt (by omega)];omega
 ·rw[List.getElem_append_right (by rw[List.length_drop];omega),List.getElem_take]
  congr 1
  rw[List.length_drop,Nat.mod_eq_sub_mod (by omega),Nat.mod_eq_of_lt (by omega)];omega
theorem qH3(d:Dc)(y:Ls)(turn:Int)(w:World)(hd:Gd d)(hy:LRef w d y)(ht: -9223372036854775808<=turn)(ht':turn<=9223372036854775807):
 Calls Tryd.prog 24 #[.agg (dcC d y).toArray,.int .i64 turn] w fun e w'=>e=.returned (.string ⟨(qBw d (qBp turn (qAf d).length).toNat).toArray⟩)/\Below w.heap.size w w':=by
 obtain⟨hs, -,-⟩:=qBE hd.err;have hk:=qDp hs;obtain⟨t1,t3,e1, -,-⟩:=TSl.form hy.t;obtain⟨g1,g3,e2, -,-⟩:=TSl.form hy.g;obtain⟨b1,b3,e3, -,-⟩:=TSl.form hy.b;obtain⟨r1,r3,e4, -,-⟩:=TSl.form hy.r;obtain⟨x1,x3,e5, -,-⟩:=TSl.form hy.x;obtain⟨cs,hcs⟩:=eX (dcC d y);have hcs2:cs=[.int .i64 d.kind,.string ⟨d.name.toArray⟩,.int .i64 d.at_,.bool d.object,.bool d.mixed,.bool d.coin,.int .i64 d.wear,.int .i64 d.bind,.int .i64 d.level,.int .i64 d.time,.int .i64 d.chance,.int .i64 d.of_,.slice t1 d.take.length t3,.slice g1 d.give.length g3,.slice b1 d.back.length b3,.slice r1 d.rows.length r3,.slice x1 d.brs.length x3]:=by
  rw[<-hcs];unfold dcC;rw[e1,e2,e3,e4,e5]
 clear e1 e2 e3 e4 e5;obtain⟨w1,hw1⟩:=eX (w.alloc (.cells cs.toArray 34));have hB1:Below w.heap.size w w1:=by rw[<-hw1];exact qAa _ _
 have hb1:qAy w1 w.heap.size 34 cs:=by rw[<-hw1];exact qAy.new _ _ _
 have HC1:=hZ (qHh d y w1 hd (hy.kp (KpX.of_below (X:=[]) hB1) (by simp) (by simp) (by simp)));rw[hcs]at HC1 ⊢;obtain⟨bx,hbx⟩:=eX w.heap.size;rw[hbx]at hb1 hB1;have hrow:qCP w1 bx 0 cs:=fun j x hj=>by rw[Nat.zero_add];exact(hb1.cell j).trans hj
 have hi1:(Tryd.prog.info? 34).map (·.size)=some cs.length:=by rw[hcs2];exact qFg
 have HB1:=hZ hB1;have HBK:=hZ hb1;have HCS:=hZ hcs2;have HD:=hZ hd;clear hb1 hB1 hcs hcs2 hy hd
 go_enter Tryd.func24,Tryd.ntmps24
 go_wp2_with (refine qBO rfl _ _ rfl bx 0 rfl cs _ hrow Tryd.underlying34 rfl hi1 ?_)
 refine HC1.o.mono ?_;rintro e w2 ⟨⟨u,rfl,hst⟩,hB2⟩;obtain⟨ua,uc,rfl, -,-⟩:=TSl.form hst;obtain⟨n,hn⟩:=eX ((qAf d).length);have hn6:n=6\/n=1:=by have:=qHo d;omega
 have hbk2:qAy w2 bx 34 cs:=(hB2.block _ HBK.o.lt).trans HBK.o;have hB02:Below bx w w2:=HB1.o.trans (hB2.mono (by have:=HBK.o.lt;omega));obtain⟨wd,hwd⟩:=eX w2.drew;have hBd:Below w2.heap.size w2 wd:=by rw[<-hwd];exact qAc _
 have hbkd:qAy wd bx 34 cs:=(hBd.block _ hbk2.lt).trans hbk2;obtain⟨wl,hwl⟩:=eX (wd.alloc (.cells #[.string ⟨#[105,116,101,109]⟩,.string ⟨#[114,117,108,101]⟩,.string ⟨#[115,112,97,119,110]⟩,.string ⟨#[108,111,111,116]⟩,.string ⟨#[116,97,120]⟩] 9));have hBl:Below wd.heap.size wd wl:=by rw[<-hwl];exact qAa _ _
 have hcx:wl.cell? ⟨wd.heap.size,d.kind.toNat,none⟩=some (.string ⟨(qAo.getD d.kind.toNat []).toArray⟩):=by rw[<-hwl];exact(qB2 (L:=([[105,116,101,109],[114,117,108,101],[115,112,97,119,110],[108,111,111,116],[116,97,120]]:List Bs).map fun s=>Value.string ⟨s.toArray⟩) (qAg.refl (fun j=>j=bx) _) hbkd.lt).trans (qJy d.kind hk)
 have hbkl:qAy wl bx 34 cs:=(hBl.block _ hbkd.lt).trans hbkd;have hc0:cs[0]? =some (.int .i64 d.kind):=by rw[HCS.o];rfl
 have hc1:cs[1]? =some (.string ⟨d.name.toArray⟩):=by rw[HCS.o];rfl
 have c0:w2.cell? ⟨bx,0,none⟩=some (.int .i64 d.kind):=(hbk2.cell 0).trans hc0;have c1:w2.cell? ⟨bx,1,none⟩=some (.string ⟨d.name.toArray⟩):=(hbk2.cell 1).trans hc1;have l0:wl.cell? ⟨bx,0,none⟩=some (.int .i64 d.kind):=(hbkl.cell 0).trans hc0;have l1:wl.cell? ⟨bx,1,none⟩=some (.string ⟨d.name.toArray⟩):=(hbkl.cell 1).trans hc1;have hBdl:Below w2.heap.size w2 wl:=hBd.trans (hBl.mono hBd.size);have HSTl:Hid (qCe wl (.slice ua n uc) (qAf d)):=hZ (by
  have h9:=TSl.kp hst (KpX.of_below (X:=[]) hBdl) (by simp) (fun _ _ h=>h);rw[hn]at h9;exact h9)
 have hsz:bx<=w2.heap.size:=by have h9:=hbk2.lt;omega
 have HBl0:Hid (Below bx w wl):=hZ (hB02.trans (hBdl.mono hsz));have hkl:=qIt d.kind hk;have hnm:=HD.o.nam;have hk0:=hk.1;have hk5:d.kind<5:=by have:=hk.2;omega
 obtain⟨kn,hkn⟩:=eX d.kind;obtain⟨kw,hkw⟩:=eX (qAo.getD d.kind.toNat []);obtain⟨nm,hnme⟩:=eX d.name;have HLn:Hid (∀a,qBw d a=kw++32::nm++qHi (qAf d) a++[59,10]):=hZ (fun a=>by rw[<-hkw,<-hnme];rfl);rw[hkw]at hcx hkl;rw[hnme]at c1 l1 hnm;rw[hkn]at c0 l0 hk0 hk5 hcx;rw[hn];have hA0:=qDF turn (n:Int) (by omega);have HA:=hZ (fun w=>qET turn (n:Int) w ht ht' (by omega) (by omega));obtain⟨a,ha⟩:∃a:Nat,qBp turn (n:Int)=a:=⟨(qBp turn (n:Int)).toNat,by omega⟩;rw[ha]at HA hA0;have ha1:a<n:=by omega
 have HQ:Hid ((qBp turn (qAf d).length).toNat=a):=hZ (by rw[hn,ha,Int.toNat_natCast]);have HLn2:=hZ (HD.o.len a);have Hn:=hZ hn;have q1:¬9223372036854775807<kw.length+1:=by omega
 have q2:¬9223372036854775807<kw.length+1+nm.length:=by omega
 clear hst hB2 hbk2 hB02 hBd hbkd hBl hbkl hc0 hc1 hBdl hk hs HC1 hrow hi1 HB1 HBK HCS hw1 hA0 ha hn hkn hkw hnme ht ht' hkl hnm
 go_wp2_with fail
 refine qAs [9] (fun W=>W.cell? ⟨bx,0,none⟩=some (.int .i64 kn)/\W.cell? ⟨bx,1,none⟩=some (.string ⟨nm.toArray⟩)) (by kernel_rfl) (⟨c0,c1⟩) (fun hHeld=> ?_);rw[hwd]at hHeld ⊢;clear hwd c0 c1;refine pU 1 11 ?_;refine qAb 2 12 (v:= ?_) rfl rfl (by kernel_rfl) (by kernel_rfl) (by kernel_rfl) (by kernel_rfl) (by kernel_rfl) (fun _ _ _ h=>h) (by rfl) ?_ (by assumption) ?_;rotate_left
 ·(intro w hSw;go_simp;first|done|with_reducible rfl)
 simp only[sX1,sX2,sX3];refine pU 6 16 ?_;refine qAb 7 17 (v:= ?_) rfl rfl (by kernel_rfl) (by kernel_rfl) (by kernel_rfl) (by kernel_rfl) (by kernel_rfl) (fun _ _ _ h=>h) (by rfl) ?_ (by assumption) ?_;rotate_left
 ·(intro w hSw;go_simp;first|done|with_reducible rfl)
 simp only[sX1,sX2,sX3];refine eU 0 fun K hK=> ?_;go_simp;clear hwl
 go_wp2_with fail
 refine hK.out _ _ (⟨l0,l1⟩) (fun hHeld=> ?_);clear hK K
 try simp only[Act.put,sX1,sX2,sX3]
 clear l0 l1;refine pU 3 13 ?_;refine eU 4 fun K hK=> ?_;go_simp;clear hcx
 go_wp2_with fail
 refine hK.out _ _ (hHeld) (fun hHeld=> ?_);clear hK K
 try simp only[Act.put,sX1,sX2,sX3]
 refine pU 5 15 ?_;refine pU 8 18 ?_;refine lU 9 fun K hK=> ?_;go_simp;refine hK.out _ _ ?_;clear hK K
 try simp only[Act.put,sX1,sX2,sX3]
 refine dU ?_;clear hHeld
 go_wp2_with fail
 obtain⟨hd,hhd⟩:=eX (kw++32::nm);have hval:(⟨kw.toArray⟩:ByteArray)++⟨#[32]⟩++⟨nm.toArray⟩=⟨hd.toArray⟩:=by
  have e1:=qAh kw [32];have e2:=qAh (kw++[32]) nm;rw[<-hhd]
  show(⟨kw.toArray⟩:ByteArray)++⟨([32]:Bs).toArray⟩++⟨nm.toArray⟩=_
  rw[e1,e2];simp
 obtain⟨ro,hro⟩:=eX ((qAf d).drop a++(qAf d).take a);have hrl:ro.length=n:=by rw[<-hro,List.length_append,List.length_drop,List.length_take,Hn.o];omega
 have HRl:=hZ hrl;have HE1:Hid (qBw d a=hd++ro.flatten++[59,10]):=hZ (by rw[HLn.o,hhd];unfold qHi;rw[hro]);have HRo:=hZ hro;have htot:(hd++ro.flatten).length<=398:=by have h9:=HLn2.o;rw[HE1.o,List.length_append]at h9;simp only[List.length_cons,List.length_nil]at h9;omega
 have HTot:=hZ htot;clear hHeld hhd hro q1 q2 htot HLn HLn2 hrl
 go_loopw [6,7] (fun sv iv wr=>∃(k:Nat) (t:Bs),k<=n/\iv=.int .i64 k/\sv=.string ⟨t.toArray⟩/\Hid (hd++ro.flatten=t++(ro.drop k).flatten)/\Hid (Below wl.heap.size wl wr)) (fun _ iv _=>n-(intOf iv).toNat)
 case atStart=>exact⟨0,hd,by omega,rfl,by first|rw[hval]|exact congrArg Value.string hval,hZ rfl,hZ (Below.refl _ _)⟩
 case round=>
  clear hval;obtain⟨k,t,hk,rfl,rfl,HT,HB⟩:=hrel;by_cases hlt:k<n
  ·have hm:=qKF (qAf d) a k (by rw[Hn.o];exact ha1) (by rw[Hn.o];exact hlt)
   obtain⟨h1,hm⟩:=hm;rw[HRo.o]at hm;obtain⟨m,hmm⟩:=eX ((k+a)%(qAf d).length);simp only[hmm]at hm h1;rw[Hn.o]at hmm;obtain⟨g,o1,cp,hv,hc⟩:=qCe.nth (TSl.kp HSTl.o (KpX.of_below (X:=[]) HB.o) (by simp) (fun _ _ h=>h)) m h1;injection hv with hv hq1 hv2;subst hv hv2;have hT:=HT.o;rw[hm,List.flatten_cons]at hT;obtain⟨x,hx⟩:=eX ((qAf d)[m]);rw[hx]at hT hc;have hlen:t.length+x.length<=398:=by have h9:=congrArg List.length hT;have h8:=HTot.o;simp only[List.length_append]at h9 h8;omega
   have HT2:Hid (hd++ro.flatten=t++x++(ro.drop (k+1)).flatten):=hZ (by rw[hT];simp);have hs1:¬9223372036854775807<t.length+x.length:=by omega
   have hn0:(0:Int)<=(k:Int):=by omega
   have hn1:(k:Int)<(n:Int):=by omega
   have hmn:m<n:=by rw[<-hmm];exact Nat.mod_lt _ (by omega)
   have hmi:((k:Int)+(a:Int)).tmod (n:Int)=(m:Int):=by rw[<-hmm];push_cast;exact Int.tmod_eq_emod_of_nonneg (by omega)
   have hm0:(0:Int)<=(m:Int):=by omega
   have hm1:(m:Int)<(n:Int):=by omega
   clear hT hx hq1 h1 hm hmm HT hlen;obtain⟨s9,hs9⟩:=eX ((k:Int)+(a:Int));have hs90:0<=s9:=by omega
   have hs91:s9<=12:=by omega
   rw[hs9]at hmi
   go_wp2_with fail
   refine(HA.o _).mono ?_;rintro e w9 ⟨rfl,hw9⟩;subst hw9
   go_wp2_with fail
   go_roundw
   case rel=>exact⟨k+1,t++x,by omega,by go_num,congrArg Value.string (qAh t x),HT2,HB⟩
   case measure=>simp[intOf];omega
  ·have hn1:¬(k:Int)<(n:Int):=by omega
   have hT:hd++ro.flatten=t:=by
    have h9:=HT.o;rw[List.drop_of_length_le (by have:=HRl.o;omega)]at h9;simpa using h9
   have hs1:¬9223372036854775807<t.length+2:=by have:=HTot.o;rw[hT]at this;omega
   have HV:Hid ((⟨t.toArray⟩:ByteArray)++⟨#[59,10]⟩=⟨(qBw d a).toArray⟩):=hZ (by
    rw[HE1.o,hT];exact qAh t [59,10])
   clear HT
   go_wp2_with fail
   go_ret;refine⟨by rw[HQ.o];exact congrArg (fun s=>Ending.returned (.string s)) HV.o,?_⟩;have h9:=HBl0.o.trans (HB.o.mono (by rw[<-hbx];exact HBl0.o.size))
   first|exact h9|(rw[hbx];exact h9)
def lnK(f:Nat->Int):Nat->List Dc->List (Dc×Nat)
 |_,[]=>[]
 |i,d::l=>(d,(qBp (f i) (qAf d).length).toNat)::lnK f (i+1) l
theorem qIp(f:Nat->Int):∀(l:List Dc) (i:Nat),(∀d∈l,Gd d)->∀x∈lnK f i l,Gd x.1
 |[],_,_=>nofun
 |d::l,i,h=>by
  intro x hx;rw[lnK]at hx;rcases List.mem_cons.1 hx with rfl|hx
  ·exact h d (by simp)
  ·exact qIp f l (i+1) (fun y hy=>h y (by simp[hy])) x hx
theorem qGo(f:Nat->Int):∀(l:List Dc) (i:Nat),(lnK f i l).length=l.length
 |[],_=>rfl
 |d::l,i=>by rw[lnK,List.length_cons,List.length_cons,qGo f l]
theorem qJu(f:Nat->Int)(l:List Dc)(k:Nat)(h:k<l.length):qAZ (lnK f k (l.drop k))=qBw l[k] (qBp (f k) (qAf l[k]).length).toNat++qAZ (lnK f (k+1) (l.drop (k+1))):=by
 rw[List.drop_eq_getElem_cons h];rfl
theorem qCP.below{w w':World}{g o:Nat}{cs:List Value}(h:qCP w g o cs)(hb:Below w.heap.size w w'):qCP w' g o cs:=fun j x hj=>(hb.cell (p:=⟨g,o+j,none⟩) (World.block_lt_of_cell? w _ (h j x hj))).trans (h j x hj)
def txT(zs:List Int)(len:Nat):List (Dc×Nat):=lnK (fun i=>qCd zs len i 6) 0 (qEk (pkN zs len))
theorem qFw(v:Value)(zs:List Int)(len:Nat)(w:World)(h:qA3 w v zs len):
 Calls Tryd.prog 19 #[v] w fun e w'=>e=.returned (.string ⟨(qAZ (txT zs len)).toArray⟩)/\Below w.heap.size w w':=by
 obtain⟨hGl,hGd⟩:=qFh (qAw zs len);have HC0:=hZ (qHE v zs len w h);obtain⟨L,hL⟩:=eX (qEk (pkN zs len));unfold txT;rw[hL]at HC0 hGl hGd ⊢;obtain⟨f,hf⟩:∃f:Nat->Int,(fun i=>qCd zs len i 6)=f:=⟨_,rfl⟩;have HF:Hid (∀i,qCd zs len i 6=f i/\0<=f i/\f i<6):=hZ (fun i=>by rw[<-hf];exact⟨rfl,qD5 zs len i 6 (by omega)⟩);rw[hf];have HG:=hZ hGd;have HI:=hZ h;obtain⟨va,vc,rfl⟩:=h.form;clear hGd hL hf h
 go_enter Tryd.func19,Tryd.ntmps19
 go_wp2_with fail
 refine HC0.o.mono ?_;rintro e w1 ⟨⟨u,rfl,hu⟩,hB1⟩;obtain⟨ua,uc,rfl, -,-⟩:=TSl.form hu;have HU:=hZ hu;have HB1:=hZ hB1;have HI1:=hZ (HI.o.below (Nat.le_refl _) hB1);obtain⟨n,hn⟩:=eX L.length;rw[hn]at hGl ⊢;have Hn:=hZ hn;clear hu hB1 HC0 hn
 go_wp2_with fail
 go_loopw [4,5] (fun sv iv wr=>∃(k:Nat) (t:Bs),k<=n/\iv=.int .i64 k/\sv=.string ⟨t.toArray⟩/\Hid (qAZ (lnK f 0 L)=t++qAZ (lnK f k (L.drop k)))/\t.length<=400*k/\Hid (Below w1.heap.size w1 wr)) (fun _ iv _=>n-(intOf iv).toNat)
 case atStart=>exact⟨0,[],by omega,rfl,rfl,hZ rfl,by simp,hZ (Below.refl _ _)⟩
 case round=>
  obtain⟨k,t,hk,rfl,rfl,HT,htl,HB⟩:=hrel;by_cases hlt:k<n
  ·have h1:k<L.length:=by have:=Hn.o;omega
   have hT:=HT.o;rw[qJu f L k h1]at hT;obtain⟨wd,hwd⟩:=eX wr.drew;have hBd:Below wr.heap.size wr wd:=by rw[<-hwd];exact qAc _
   obtain⟨g,o1,cp,cs,hv,hdc,s1,hrow⟩:=qCQ.nth (HU.o.kp (KpX.of_below (X:=[]) HB.o) (by simp) (by simp) (by simp) (by simp)) k h1;injection hv with hv hq1 hv2;subst hv hv2;obtain⟨y,hy,hlr⟩:=hdc;have hGk:=HG.o _ (List.getElem_mem h1);obtain⟨d,hd⟩:=eX (L[k]);rw[hd]at hy hlr hGk hT;have HLr:=hZ (hlr.kp (KpX.of_below (X:=[]) hBd) (by simp) (by simp) (by simp));have HGk:=hZ hGk;have hi1:(Tryd.prog.info? 34).map (·.size)=some cs.length:=by rw[s1];exact qFg
   have HIr:qA3 wr _ zs len:=HI1.o.below (Nat.le_refl _) HB.o;have HId:Hid (qA3 wd (.slice va len vc) zs len):=hZ (HIr.below (Nat.le_refl _) hBd);obtain⟨hf1,hf2,hf3⟩:=HF.o k;have hlen:=hGk.len (qBp (f k) (qAf d).length).toNat;have HLN:=hZ (qH3 d y (f k) wd hGk HLr.o (by omega) (by omega));rw[<-hy]at HLN;obtain⟨x,hx⟩:=eX (qBw d (qBp (f k) (qAf d).length).toNat);rw[hx]at HLN hlen hT;have HT2:Hid (qAZ (lnK f 0 L)=t++x++qAZ (lnK f (k+1) (L.drop (k+1)))):=hZ (by rw[hT];simp);have HBd:Hid (Below w1.heap.size w1 wd):=hZ (HB.o.trans (hBd.mono HB.o.size));have Hf1:=hZ hf1;have hn0:(0:Int)<=(k:Int):=by omega
   have hn1:(k:Int)<(n:Int):=by omega
   have hs1:¬9223372036854775807<t.length+x.length:=by omega
   clear hBd hT hx hd hGk hlr hy hq1 h1 HT HB hf1 hf2 hf3
   go_wp2_with fail
   refine qAs [10] (fun W=>qCP W g (o1+k*17) cs/\qA3 W (.slice va len vc) zs len) (by kernel_rfl) (⟨hrow,HIr⟩) (fun hHeld=> ?_);rw[hwd]at hHeld ⊢;clear hwd hrow HIr;refine pU 0 14 ?_;refine pU 1 15 ?_;refine pU 2 16 ?_;refine pU 3 17 ?_;refine qAb 4 18 (v:=.agg cs.toArray) rfl rfl (by kernel_rfl) (by kernel_rfl) (by kernel_rfl) (by kernel_rfl) (by kernel_rfl) (fun _ _ _ h=>h) (by rfl) (fun w hSw=>qCm _ _ rfl g (o1+k*17) rfl cs _ (hSw.1) Tryd.underlying34 rfl hi1) (by assumption) ?_;simp only[sX1,sX2,sX3];refine pU 5 19 ?_;refine pU 6 20 ?_;refine qBW 7 21 (v:=.int .i64 (f k)) rfl rfl (by kernel_rfl) (by kernel_rfl) (by kernel_rfl) (by kernel_rfl) (by kernel_rfl) (fun _ _ _ h=>h) (by rfl) ?_ (by assumption) ?_
   ·(intro w hSw;refine⟨_,_,?_,(by have h9:=qGM (.slice va len vc) zs len k 6 w hSw.2 (by omega) (by omega) (by omega);rw[Hf1.o]at h9;exact h9)⟩;go_simp;first|done|with_reducible rfl)
   simp only[sX1,sX2,sX3];refine eU 8 fun K hK=> ?_;go_simp;refine HLN.o.mono ?_;rintro e w5 ⟨rfl,hBn⟩;have hr5:qCP w5 g (o1+k*17) cs/\qA3 w5 (.slice va len vc) zs len:=⟨hHeld.1.below hBn,HId.o.below (Nat.le_refl _) hBn⟩;have HB5:Hid (Below w1.heap.size w1 w5):=hZ (HBd.o.trans (hBn.mono HBd.o.size));clear hBn
   go_wp2_with fail
   refine hK.out _ _ (hr5) (fun hHeld=> ?_);clear hK K
   try simp only[Act.put,sX1,sX2,sX3]
   clear hr5;refine pU 9 23 ?_;refine lU 10 fun K hK=> ?_;go_simp;refine hK.out _ _ ?_;clear hK K
   try simp only[Act.put,sX1,sX2,sX3]
   refine dU ?_;clear hHeld
   go_wp2_with fail
   go_roundw
   case rel=>exact⟨k+1,t++x,by omega,by go_num,congrArg Value.string (qAh t x),HT2,by simp;omega,HB5⟩
   case measure=>simp[intOf];omega
  ·have hn1:¬(k:Int)<(n:Int):=by omega
   have hT:qAZ (lnK f 0 L)=t:=by
    have h9:=HT.o;rw[List.drop_of_length_le (by have:=Hn.o;omega)]at h9;rw[h9];simp[lnK,qAZ]
   clear HT
   go_wp2_with fail
   go_ret;exact⟨by first|rfl|(rw[hT];rfl),HB1.o.trans (HB.o.mono HB1.o.size)⟩
end Go.Proofs.YtpmnbcdjoomgcaaDoor
