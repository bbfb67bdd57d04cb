/- append to a row of one's own: no word lies in its block. -/
import Derived.Test.YtkjhlkngihponaaGreatDoorQKLRedP
import Derived.Test.YtkjhlkngihponaaGreatDoorQKRegFree
import Derived.Deep.Cut
import Derived.Test.YtkjhlkngihponaaGreatDoorQKLRow
import Derived.Test.YtkjhlkngihponaaGreatDoorQKLSmall
set_option linter.unusedVariables false
set_option linter.unusedSimpArgs false
set_option maxHeartbeats 16000000
set_option maxRecDepth 100000
namespace Go.Proofs.YtkjhlkngihponaaGreatDoor
open Go.RowKit
def qQ6(w0:World)(M0:List (List Int))(ps:List Nat)(m:Int)(e:Ending)(w':World):Prop:=
 ∃(R:Nat) (l:List Rw) (sq sq':List (List Int)),e=.returned (.slice (some ⟨R,0,none⟩) ps.length ps.length)/\qCX w' R l ps.length sq'/\l.length=ps.length/\qLg m ps.length (sq.map vec) (M0.map (fun r=>res ps (vec r)))/\qMd m ps.length 0 (sq.map vec) (sq'.map vec)/\(∀r∈sq',Bd m r)/\Below w0.heap.size w0 w'
theorem qRP{d:Int}(h:0<d):qAV d 0=1:=by
 unfold qAV;rw[if_neg (by omega)]
 first|rfl|(rw[if_pos h])|(rw[if_neg (by omega)])
theorem qRQ{d:Int}(h:d<0):qAV d 0= -1:=by
 unfold qAV
 split<;>first|rfl|omega
theorem qIe(w0:World)(v vp vd:Value)(M0:List (List Int))(n:Nat)(ps:List Nat)(d:Int)(h:qJk w0 v M0)(hM:M0.length<=1000)(hn:∀r∈M0,r.length=n)(hn2:n<=1000)(hp:qAg w0 vp (ps.map (fun(p:Nat)=>(p:Int))))(hps:∀p∈ps,p<n)(hpl:ps.length<=1000)(hd:qAr w0 vd d)(hd0:d≠0)(sd:Sz 4000 d)(sM:∀r∈M0,∀x∈r,Sz 4000 x):
 Calls Tryz.prog 147 #[v,vp,vd] w0 (qQ6 w0 M0 ps (if d<0 then -d else d)):=by
 obtain⟨s_d,a_d,n_d,c_d,rfl⟩:=hd.form4;have Vd:=hZ hd;have H:=hZ h;obtain⟨av,cv,rfl,q1,q2⟩:=qAb.form h;have HPS:=hZ hp;obtain⟨ap,cp,hvp,q3,q4⟩:=hp.form;rw[List.length_map]at hvp q3;subst hvp;have Hn:=hZ hn;have Hps:=hZ hps;have Sd:=hZ sd;have SM:=hZ sM;have HB:=hZ (Below.refl w0.heap.size w0);obtain⟨K,hK0⟩:=eX ps.length;have HK:=hZ hK0;rw[hK0]at q3 hpl ⊢;clear h hd hp hn hps sd sM hK0;obtain⟨m,hm⟩:=eX ((if d<0 then -d else d));rw[hm];have HMm:=hZ hm;clear hm;obtain⟨w1,hw⟩:=eX ((w0.alloc (.cells #[.bool s_d,.slice a_d n_d c_d] 73)));have hB:=aB hw;obtain⟨b5,hb_b5⟩:=eX w0.heap.size;have h9:=Bx.new (w:=w0) Vd.o;rw[hw,hb_b5]at h9;have F5':=hZ h9;have hge_b5:w0.heap.size<=b5:=by omega
 clear h9;replace Vd:=Vd.b hB;replace HB:=bT HB hB;have F5:=F5';clear F5';clear hB;have hw5:=hw;clear hw hge_b5;obtain⟨s_p,a_p,n_p,c_p,t_p,h_p⟩:=F5.o;have d0p:=t_p.cell0;have d1p:=t_p.cell1;have Vp:=hZ h_p;clear t_p h_p;have hl5:=F5.o.lt;clear Vd;obtain⟨w2,hw⟩:=eX ((w1.alloc (.cells #[.bool s_p,.slice a_p n_p c_p] 73)));have hB:=aB hw;obtain⟨b7,hb_b7⟩:=eX w1.heap.size;have h9:=Bx.new (w:=w1) Vp.o;rw[hw,hb_b7]at h9;have Fm':=hZ h9;have hge_b7:w1.heap.size<=b7:=by omega
 clear h9;replace F5:=F5.b hB;replace Vp:=Vp.b hB;replace HB:=bT HB hB;have Fm:=Fm';clear Fm';clear hB;have Hb7:Hid (w0.heap.size<=b7):=hZ (by omega);clear hl5 hge_b7
 skip
 obtain⟨s_q,a_q,n_q,c_q,t_q,h_q⟩:=Fm.o;have d0q:=t_q.cell0;have d1q:=t_q.cell1;have Vq:=hZ h_q;clear t_q h_q
 go_enter Tryz.func147,Tryz.ntmps147
 go_wp2_with fail
 clear hw hw5 hb_b5 hb_b7 d0p d1p;refine(qAE (w:=w2) Vq.o Sd.o (by omega)).mono ?_;rintro e w3 ⟨he,hB⟩;subst he;replace F5:=F5.b hB;replace Vp:=Vp.b hB;replace Fm:=Fm.b hB;replace Vq:=Vq.b hB;replace HB:=bT HB hB;clear hB;clear F5 Vp Vq;clear d0q d1q
 go_upto_if 23 with fail
 go_cut []from 20 (fun  wc=>Hid (Bx wc b7 m)/\Hid (Below w0.heap.size w0 wc))
 ·skip
  by_cases h1:d<0
  ·skip
   rw[qRQ h1];obtain⟨s_q,a_q,n_q,c_q,t_q,h_q⟩:=Fm.o;have d0q:=t_q.cell0;have d1q:=t_q.cell1;have Vq:=hZ h_q;clear t_q h_q
   go_wp2_with fail
   clear d0q d1q;refine(qRv (w:=w3) Vq.o Sd.o (by omega)).mono ?_;rintro e w4 ⟨s_x,a_x,n_x,c_x,rfl,h_x,hB⟩;have Vx:=hZ h_x;replace Fm:=Fm.b hB;replace Vq:=Vq.b hB;replace HB:=bT HB hB;clear hB;clear h_x;obtain⟨s_9,a_9,n_9,c_9,t_9,-⟩:=Fm.o;have e0:=t_9.cell0;have e1:=t_9.cell1;have e2:=t_9.frozen 0;have e3:=t_9.frozen 1;clear t_9;have hn9:qAi w4 (b7):=Fm.o.noInt;obtain⟨w5,hw⟩:=eX ((w4.setCell ⟨b7,0,none⟩ (.bool s_x)).setCell ⟨b7,1,none⟩ (.slice a_x n_x c_x));have hw2:st2 w4 (b7) (0) (1) s_x a_x n_x c_x=w5:=hw;replace Fm:=hZ (Bx.put Fm.o Vx.o);rw[hw2]at Fm;replace Vq:=hZ (Vq.o.offe hw2 hn9);replace Vx:=hZ (Vx.o.offe hw2 hn9);replace HB:=hZ (bO hw2 HB.o (by have:=Hb7.o;omega));clear hw2 hn9
   go_wp2_with fail
   go_meet
   case rel=>exact⟨by rw[<-HMm.o,if_pos h1];exact Fm,HB⟩
  ·skip
   rw[qRP (by omega)]
   go_wp2_with fail
   go_meet
   case rel=>exact⟨by rw[<-HMm.o,if_neg (by omega)];exact Fm,HB⟩
 ·skip
  clear Fm HB;obtain⟨Fm,HB⟩:=hcut;obtain⟨w4,rfl⟩:=eY wc;have Sm:Hid (Sz 4000 m):=hZ (by rw[<-HMm.o];split;exact Sd.o.neg;exact Sd.o);have hm0:0<m:=by rw[<-HMm.o];split<;>omega
  go_wp2_with (at_make;refine qCV rfl rfl (K) rfl rfl rfl rfl (by omega) ?_)
  intro w5 h_9 hB hlt9;obtain⟨R,hb⟩:=eX w4.heap.size;rw[hb]at h_9 ⊢;have Ob':=hZ h_9;have hge_R:Hid (w4.heap.size<=R):=hZ (Nat.le_of_eq hb);have hlt_R:Hid (R<w5.heap.size):=hZ (by rw[<-hb];exact hlt9);have HGR:w0.heap.size<=R/\b7<R:=⟨Nat.le_trans HB.o.size hge_R.o,by rw[<-hb];exact Fm.o.lt⟩;clear h_9 hb hlt9;replace Fm:=Fm.b hB;replace HB:=bT HB hB;clear hB;have Ob:=Ob';clear Ob'
  go_wp2_with fail
  have HgR:Hid (w0.heap.size<=R/\b7<R):=hZ HGR;clear hge_R hlt_R HGR
  go_loopw [31] (fun i wr=>∃(j:Nat) (l:List Rw),j<=K/\i=.int .i64 j/\Hid (l.length=j/\(∀k (h:k<l.length),R<l[k].1)/\∀k (h:k<l.length),l[k].2=K)/\Hid (qAf wr R 77 (rwZ K l (K-j)))/\Hid (qAB wr l K ((dgL m K).take j))/\Hid (Bx wr b7 m)/\Hid (Below w0.heap.size w0 wr)) (fun i _=>K-(intOf i).toNat)
  case atStart=>exact⟨0,[],by omega,rfl,hZ ⟨rfl,fun k h=>by simp at h,fun k h=>by simp at h⟩,hZ (by simpa[rwZ]using Ob.o),hZ (qAB.nil _ _),Fm,HB⟩
  case round=>
   clear HB Ob Fm;obtain⟨j,l,hj,rfl,HL,Ob,RI,Fm,HB⟩:=hrel;obtain⟨w5,rfl⟩:=eY wr;by_cases hlt:j<K
   ·skip
    have i1:(0:Int)<=(j:Int):=by omega
    have i2:(j:Int)<(K:Int):=by omega
    go_wp2_with (at_make;refine qBp rfl rfl (K) rfl rfl rfl rfl (by omega) ?_)
    intro w6 h_9 hB hlt9;obtain⟨g,hb⟩:=eX w5.heap.size;rw[hb]at h_9 ⊢;have Rr':=hZ h_9;have hge_g:Hid (w5.heap.size<=g):=hZ (Nat.le_of_eq hb);have hlt_g:Hid (g<w6.heap.size):=hZ (by rw[<-hb];exact hlt9);have HLg:Hid ((∀k (h:k<l.length),l[k].1<g)/\R<g/\b7<g):=hZ ⟨fun k h=>by rw[<-hb];exact RI.o.lt k h,by rw[<-hb];exact Ob.o.lt,by rw[<-hb];exact Fm.o.lt⟩;clear h_9 hb hlt9;replace Ob:=Ob.b hB;replace RI:=RI.b hB;replace Fm:=Fm.b hB;replace HB:=bT HB hB;clear hB;have Rr:=Rr';clear Rr';clear hge_g hlt_g;have Hk:Hid (K-j=(K-(j+1))+1):=hZ (by omega);rw[Hk.o]at Ob;have e0:w6.cell? ⟨R,j,none⟩=some (.slice none 0 0):=(Ob.o.cell j).trans (by rw[<-HL.o.1];exact qFH);have e2:=Ob.o.frozen (j);obtain⟨w7,hw⟩:=eX (w6.setCell ⟨R,j,none⟩ (.slice (some ⟨g,0,none⟩) K K));have ho:qAc (fun b=>b=R) w6 w7:=by rw[<-hw];exact(qAc.refl (fun b=>b=R) _).set (p:=⟨R,j,none⟩) rfl _
    have hN:∀b,b=R->qAi w6 b:=fun b e=>e▸Ob.o.noInt qIl;replace Ob:=hZ ((by have h1:=Ob.o.set j (.slice (some ⟨g,0,none⟩) K K);rw[hw,qKB K HL.o.1]at h1;exact h1));replace RI:=hZ (RI.o.only ho hN (fun i hi=>by intro (e:_=R);have:=HL.o.2.1 i hi;omega));replace Fm:=hZ (Fm.o.only ho hN (by intro (e:_=R);have:=HLg.o;have:=HgR.o;omega));replace Rr:=hZ (Rr.o.only ho hN (by intro (e:_=R);have:=HLg.o;have:=HgR.o;omega));replace HB:=hZ (qAY HB.o ho (fun b e=>by have:=HgR.o;omega) HB.o.size);clear ho hN
    go_wp2_with fail
    clear hw e0 e2;obtain⟨w8,hwd⟩:=eX w7.drew;have hB:=dB hwd;replace Ob:=Ob.b hB;replace RI:=RI.b hB;replace Fm:=Fm.b hB;replace Rr:=Rr.b hB;replace HB:=bT HB hB;clear hB;have HBr:Hid (qAc (fun b=>False) w8 w8):=hZ (qAc.refl _ _);refine qAU [7] (fun w'=>qAc (fun b=>False) w8 w') (by kernel_rfl) (by rw[hwd];exact qAc.refl _ _) (fun hHeld=> ?_);rw[hwd]at hHeld ⊢;clear hwd;obtain⟨s_m,a_m,n_m,c_m,t_m,h_m⟩:=Fm.o;have d0m:=t_m.cell0;have d1m:=t_m.cell1;have Vm:=hZ h_m;clear t_m h_m;have e0:w8.cell? ⟨R,j,none⟩=some (.slice (some ⟨g,0,none⟩) K K):=(Ob.o.cell j).trans (by have h1:=HL.o.1;subst h1;rw[qMB (by simp)];simp);refine pU 0 40 ?_;refine pU 1 41 ?_;refine pU 2 42 ?_;refine tU 3 43 (cF e0 Ob.o.lt) ?_;refine pU 4 44 ?_;refine tV 5 45 (cF d0m Fm.o.lt) (cF d1m Fm.o.lt) ?_;refine pU 6 46 ?_;clear d0m d1m;obtain⟨s_9,a_9,n_9,c_9,e0,e1,-⟩:=Rr.o.get (j) (by simpa using hlt);have e2:=Rr.o.frozen (j*2);have e3:=Rr.o.frozen (j*2+1);have hn9:qAi w8 (g):=Rr.o.noInt;obtain⟨w9,hw⟩:=eX ((w8.setCell ⟨g,j*2,none⟩ (.bool s_m)).setCell ⟨g,j*2+1,none⟩ (.slice a_m n_m c_m));have hw2:st2 w8 (g) (j*2) (j*2+1) s_m a_m n_m c_m=w9:=hw;replace Rr:=hZ (qAC.put' Rr.o (j) (by simpa using hlt) Vm.o);rw[hw2]at Rr;replace Ob:=hZ (Ob.o.offe hw2 (by have:=HLg.o;omega));replace RI:=hZ (qAB.off (g:=g) (o1:=j*2) (o2:=j*2+1) (s:=s_m) (a:=a_m) (n':=n_m) (c:=c_m) RI.o hn9 (fun i hi=>by have:=HLg.o.1 i hi;omega));rw[hw2]at RI;replace Fm:=hZ (Fm.o.offe hw2 hn9 (by have:=HLg.o;omega));replace Vm:=hZ (Vm.o.offe hw2 hn9);replace HB:=hZ (bO hw2 HB.o (by have:=HLg.o;have:=HgR.o;omega));clear hw2 hn9;refine lU 7 fun K hK=> ?_;go_simp
    try rw[hw]
    refine hK.out _ _ ?_;clear hK K
    try simp only[Act.put,sX1,sX2,sX3]
    clear hw e0 e1 e2 e3;refine dU ?_;clear hHeld;clear Vm;clear e0
    go_wp2_with fail
    have HD:(dgL m K).take (j+1)=(dgL m K).take j++[(List.replicate K 0).set j m]:=by rw[List.take_succ_eq_append_getElem (by rw[qGi];exact hlt),qPK m K j hlt]
    go_roundw
    case rel=>exact⟨j+1,l++[(g,K)],by omega,by go_num,hZ ⟨by have:=HL.o.1;simp;omega,qDo (P:=fun(x:Rw)=>R<x.1) HL.o.2.1 HLg.o.2.1,qDo (P:=fun(x:Rw)=>x.2=K) HL.o.2.2 rfl⟩,Ob,hZ (by rw[HD];exact RI.o.snoc Rr.o (by simp) (fun i hi=>by have:=HLg.o.1 i hi;omega) (Nat.le_refl _) (by omega)),Fm,HB⟩
    case measure=>simp[intOf];omega
   ·skip
    obtain rfl:j=K:=by omega
    have RS:Hid (qCX w5 R l j (dgL m j)):=hZ (by have h1:=Ob.o;rw[Nat.sub_self]at h1;have h2:=RI.o;rw[List.take_of_length_le (by rw[qGi];exact Nat.le_refl _)]at h2;exact⟨by simpa[rwZ]using h1,h2,fun i hi=>by have:=HL.o.2.1 i hi;omega⟩);have HLn:Hid (l.length=j):=hZ HL.o.1;have HLR:Hid (w0.heap.size<=R/\b7<R/\w0.heap.size<=b7/\∀k (h:k<l.length),R<l[k].1):=hZ ⟨HgR.o.1,HgR.o.2,Hb7.o,HL.o.2.1⟩;clear Ob RI HL HgR Hb7
    go_wp2_with fail
    have HQ:Hid (SqL m ps M0 0 (dgL m j)):=hZ (by have h1:=SqL.start hm0 ps M0;rw[HK.o]at h1;exact h1)
    go_loopw [50] (fun i wr=>∃(t:Nat) (sq:List (List Int)),t<=M0.length/\i=.int .i64 t/\Hid (SqL m ps M0 t sq)/\Hid (qCX wr R l j sq)/\Hid (Bx wr b7 m)/\Hid (Below w0.heap.size w0 wr)) (fun i _=>M0.length-(intOf i).toNat)
    case atStart=>exact⟨0,dgL m j,by omega,rfl,HQ,RS,Fm,HB⟩
    case round=>
     clear HQ RS Fm HB;obtain⟨t,sq,ht,rfl,HQ,RS,Fm,HB⟩:=hrel;obtain⟨w5,rfl⟩:=eY wr;by_cases htl:t<M0.length
     ·skip
      obtain⟨b,cap,a,cx,hv,hb,n1,HR,g1,g2⟩:=H.o.at_ t htl;injection hv with f1 f2 f3;subst f1;clear f2 f3;have Hr:Hid (M0[t].length=n):=hZ (Hn.o _ (List.getElem_mem htl));have Hsr:Hid (∀x∈M0[t],Sz 4000 x):=hZ (SM.o _ (List.getElem_mem htl));replace n1:=(HB.o.cell (p:=⟨b,t,none⟩) hb).trans n1;obtain⟨r,hr⟩:=eX (M0[t]);rw[hr]at n1 HR g1 Hr Hsr;have HRt:=hZ hr;rw[Hr.o]at n1 HR g1;have HR:=hZ HR;clear hr;have i1:(0:Int)<=(t:Int):=by omega
      have i2:(t:Int)<(M0.length:Int):=by omega
      go_wp2_with (at_make;refine qBp rfl rfl (j) rfl rfl rfl rfl (by omega) ?_)
      intro w6 h_9 hB hlt9;obtain⟨ga,hb⟩:=eX w5.heap.size;rw[hb]at h_9 ⊢;have Ra':=hZ h_9;have hge_ga:Hid (w5.heap.size<=ga):=hZ (Nat.le_of_eq hb);have hlt_ga:Hid (ga<w6.heap.size):=hZ (by rw[<-hb];exact hlt9);have HGa:Hid (R<ga/\b7<ga/\∀k (h:k<l.length),l[k].1<ga):=hZ ⟨by rw[<-hb];exact RS.o.lt,by rw[<-hb];exact Fm.o.lt,fun k h=>by rw[<-hb];exact RS.o.rows.lt k h⟩;clear h_9 hb hlt9;replace RS:=RS.b hB;replace Fm:=Fm.b hB;replace HB:=bT HB hB;clear hB;have Ra:=Ra';clear Ra';clear hge_ga hlt_ga
      go_wp2_with fail
      have HTl:Hid ((cdL m ps r).length=(List.replicate j (0:Int)).length):=hZ (by rw[qHY,HK.o];simp)
      go_loopw [59] (fun i wr=>∃q:Nat,q<=j/\i=.int .i64 q/\Hid (qAC wr ga ((cdL m ps r).take q++(List.replicate j 0).drop q))/\Hid (qCX wr R l j sq)/\Hid (Bx wr b7 m)/\Hid (Below w0.heap.size w0 wr)) (fun i _=>j-(intOf i).toNat)
      case atStart=>exact⟨0,by omega,rfl,hZ (by simpa using Ra.o),RS,Fm,HB⟩
      case round=>
       clear Ra RS Fm HB;obtain⟨q,hq,rfl,Ra,RS,Fm,HB⟩:=hrel;obtain⟨w6,rfl⟩:=eY wr;by_cases hql:q<j
       ·skip
        have i3:(0:Int)<=(q:Int):=by omega
        have i4:(q:Int)<(j:Int):=by omega
        have hqp:q<ps.length:=by rw[HK.o];exact hql
        have Hqm:Hid (q<(ps.map (fun(p:Nat)=>(p:Int))).length):=hZ (by rw[List.length_map];exact hqp);obtain⟨b2,cap2,hv,hb2,n2⟩:=(qAg.below HPS.o HB.o).at_ q Hqm.o;rw[List.length_map,HK.o]at hv;injection hv with f1 f2 f3;subst f1;clear f2 f3;rw[List.getElem_map]at n2;obtain⟨pc,hpc⟩:=eX (ps[q]);have hpn:pc<n:=hpc▸Hps.o _ (List.getElem_mem _);rw[hpc]at n2;have Hpc:=hZ hpc;clear hpc;have i5:(0:Int)<=(pc:Int):=by omega
        have i6:(pc:Int)<(n:Int):=by omega
        have Hpr:Hid (pc<r.length):=hZ (by rw[Hr.o];exact hpn)
        go_wp2_with fail
        clear n2;obtain⟨w7,hwd⟩:=eX w6.drew;have hB:=dB hwd;replace Ra:=Ra.b hB;replace RS:=RS.b hB;replace Fm:=Fm.b hB;replace HB:=bT HB hB;clear hB;have HBr:Hid (qAc (fun b=>False) w7 w7):=hZ (qAc.refl _ _);refine qAU [9] (fun w'=>qAc (fun b=>False) w7 w') (by kernel_rfl) (by rw[hwd];exact qAc.refl _ _) (fun hHeld=> ?_);rw[hwd]at hHeld ⊢;clear hwd;obtain⟨b9,c9,s_r,a_r,n_r,c_r,hv9,hb9,d0r,d1r,h_r⟩:=(HR.o.blw HB.o).at_ pc Hpr.o;injection hv9 with f1 f2 f3;subst f1;clear f2 f3;replace hb9:=hZ hb9;obtain⟨z,hz⟩:=eX (r[pc]'Hpr.o);rw[hz]at h_r;have Vr:=hZ h_r;have Sz_:Hid (Sz 4000 z):=hZ (hz▸Hsr.o _ (List.getElem_mem _));have Hz:=hZ hz;clear h_r hz;obtain⟨s_m,a_m,n_m,c_m,t_m,h_m⟩:=Fm.o;have d0m:=t_m.cell0;have d1m:=t_m.cell1;have Vm:=hZ h_m;clear t_m h_m;refine pU 0 64 ?_;refine pU 1 65 ?_;refine pU 2 66 ?_;refine pU 3 67 ?_;refine pU 4 68 ?_;refine tV 5 69 (cF d0r hb9.o) (cF d1r hb9.o) ?_;refine tV 6 70 (cF d0m Fm.o.lt) (cF d1m Fm.o.lt) ?_;clear d0r d1r d0m d1m;refine eU 7 fun K hK=> ?_;go_simp;refine(qEe (w:=w7) Vr.o Vm.o Sz_.o Sm.o (by omega) (by omega) (by omega)).mono ?_;rintro e w8 ⟨s_z,a_z,n_z,c_z,rfl,h_z,hB⟩;have Vz:=hZ h_z;replace HBr:=oT HBr hB;replace Ra:=Ra.b hB;replace RS:=RS.b hB;replace Fm:=Fm.b hB;replace Vr:=Vr.b hB;replace Vm:=Vm.b hB;replace HB:=bT HB hB;clear hB;clear h_z;refine hK.out _ _ HBr.o (fun hHeld=> ?_);clear hK K
        try simp only[Act.put,sX1,sX2,sX3]
        refine pU 8 72 ?_;obtain⟨s_9,a_9,n_9,c_9,e0,e1,-⟩:=Ra.o.get (q) (by rw[qC8 HTl.o (by simp;omega)];simpa using hql);have e2:=Ra.o.frozen (q*2);have e3:=Ra.o.frozen (q*2+1);have hn9:qAi w8 (ga):=Ra.o.noInt;obtain⟨w9,hw⟩:=eX ((w8.setCell ⟨ga,q*2,none⟩ (.bool s_z)).setCell ⟨ga,q*2+1,none⟩ (.slice a_z n_z c_z));have hw2:st2 w8 (ga) (q*2) (q*2+1) s_z a_z n_z c_z=w9:=hw;replace Ra:=hZ (qAC.put' Ra.o (q) (by rw[qC8 HTl.o (by simp;omega)];simpa using hql) Vz.o);rw[hw2]at Ra;replace RS:=hZ (qCX.off9 (g:=ga) (o1:=q*2) (o2:=q*2+1) (s:=s_z) (a:=a_z) (n':=n_z) (c:=c_z) RS.o hn9 ⟨by have:=HGa.o.1;omega,fun i hi=>by have:=HGa.o.2.2 i hi;omega⟩);rw[hw2]at RS;replace Fm:=hZ (Fm.o.offe hw2 hn9 (by have:=HGa.o;omega));replace Vr:=hZ (Vr.o.offe hw2 hn9);replace Vm:=hZ (Vm.o.offe hw2 hn9);replace Vz:=hZ (Vz.o.offe hw2 hn9);replace HB:=hZ (bO hw2 HB.o (by have:=HGa.o;have:=HLR.o;omega));clear hw2 hn9;refine lU 9 fun K hK=> ?_;go_simp
        try rw[hw]
        refine hK.out _ _ ?_;clear hK K
        try simp only[Act.put,sX1,sX2,sX3]
        clear hw e0 e1 e2 e3;refine dU ?_;clear hHeld;clear Vr Vm Vz
        go_wp2_with fail
        have HC:(cdL m ps r)[q]'(by rw[qHY];exact hqp)=z%m:=by simp only[cdL,List.getElem_map];rw[Hpc.o,qAp Hpr.o,Hz.o]
        replace Ra:Hid (qAC w9 ga ((cdL m ps r).take (q+1)++(List.replicate j 0).drop (q+1))):=hZ (by have h1:=Ra.o;rw[<-HC,qCW HTl.o (by simpa using hql)]at h1;exact h1);go_roundw
        case rel=>exact⟨q+1,by omega,by go_num,Ra,RS,Fm,HB⟩
        case measure=>simp[intOf];omega
       ·skip
        obtain rfl:q=j:=by omega
        replace Ra:Hid (qAC w6 ga (cdL m ps r)):=hZ (by have h1:=Ra.o;have h2:=HTl.o;rw[List.take_of_length_le (by rw[h2];simp),List.drop_eq_nil_of_le (by simp),List.append_nil]at h1;exact h1);obtain⟨s_m,a_m,n_m,c_m,t_m,h_m⟩:=Fm.o;have d0m:=t_m.cell0;have d1m:=t_m.cell1;have Vm:=hZ h_m;clear t_m h_m
        go_wp2_with fail
        clear d0m d1m;have HIn:=hZ (qLO w6 R ga q q q l sq (cdL m ps r) _ m RS.o HLn.o Ra.o (by rw[qHY];exact HK.o) hpl (Nat.le_refl _) (by omega) (Nat.le_refl _) (by omega) Vm.o hm0 Sm.o (by have h1:=HQ.o.to.tri;rw[HK.o]at h1;exact h1) HQ.o.bd (qRO hm0 _ _) ⟨by have:=HGa.o.1;omega,fun i hi=>by have:=HGa.o.2.2 i hi;omega⟩);refine HIn.o.mono ?_;rintro e w7 ⟨⟨v9,rfl⟩,sq2,hi9,hr9,hb9,ho⟩;clear HIn;have Ra9:=Ra;clear Vm Ra;have hN:∀b,qRd ga l b->qAi w6 b:=by rintro b (rfl|⟨i,hi,rfl⟩);exact Ra9.o.noInt;exact(RS.o.rows.row i hi).1.noInt
        replace RS:=hZ (hr9);replace Fm:=hZ (Fm.o.only ho hN (by rintro(e|⟨i,hi,e⟩);have:=HGa.o;omega;have:=HLR.o.2.2.2 i hi;have:=HLR.o;omega));replace HB:=hZ (qAY HB.o ho (by rintro b (rfl|⟨i,hi,rfl⟩);have:=HGa.o;have:=HLR.o;omega;have:=HLR.o.2.2.2 i hi;have:=HLR.o;omega) HB.o.size);clear ho hN hr9 Ra9
        go_wp2_with fail
        go_roundw
        case rel=>exact⟨t+1,sq2,by omega,by go_num,hZ (HQ.o.step htl (by rw[HRt.o,HK.o];exact hi9) hb9),RS,Fm,HB⟩
        case measure=>simp[intOf];omega
     ·skip
      obtain rfl:t=M0.length:=by omega
      have HQ0:=HQ.o.to;rw[List.take_of_length_le (Nat.le_refl _),HK.o]at HQ0;have HQ1:=hZ HQ0;have HRd:=hZ (qOj.start (m:=m) (n:=j) HQ.o.bd);have Hsl:Hid (sq.length=j):=hZ (by have:=RS.o.len;have:=HLn.o;omega);have HTr:Hid (qH0 m j 0 (sq.map vec)):=hZ HQ0.tri;clear HQ HQ0;have HBq:Hid (∀r∈sq,Bd m r):=hZ HRd.o.bd
      go_wp2_with fail
      go_loopw [81] (fun i wr=>∃(t:Nat) (sq1:List (List Int)),t<=j/\i=.int .i64 t/\Hid (qOj m j sq t sq1)/\Hid (qCX wr R l j sq1)/\Hid (Bx wr b7 m)/\Hid (Below w0.heap.size w0 wr)) (fun i _=>j-(intOf i).toNat)
      case atStart=>exact⟨0,sq,by omega,rfl,HRd,RS,Fm,HB⟩
      case round=>
       clear HRd RS Fm HB;obtain⟨t,sq1,ht,rfl,HRd,RS,Fm,HB⟩:=hrel;obtain⟨w5,rfl⟩:=eY wr;by_cases htj:t<j
       ·skip
        have i1:(0:Int)<=(t:Int):=by omega
        have i2:(t:Int)<(j:Int):=by omega
        have htl:t<l.length:=by rw[HLn.o];exact htj
        have hts:t<sq.length:=by rw[Hsl.o];exact htj
        have hts1:t<sq1.length:=by rw[HRd.o.len];exact hts
        obtain⟨g,hg⟩:=eX (l[t].1);obtain⟨cg,hcg⟩:=eX (l[t].2);have x0:=RS.o.get t htl;rw[hg,hcg]at x0;have hcc:=RS.o.rows.cap t htl;rw[hcg]at hcc;obtain⟨hc1,hc2⟩:=hcc;have HG:=hZ hg;clear hg hcg;obtain⟨hr1,hr2⟩:=RS.o.rows.row t htl;rw[HG.o]at hr1;have Rr:=hZ hr1;have Hrl:=hZ hr2;have HE0:Hid (sq1[t]=sq[t]):=hZ (HRd.o.rest t hts1 hts (Nat.le_refl _));have HBr:Hid (Bd m sq1[t]):=hZ (HRd.o.bd _ (List.getElem_mem _));clear hr1 hr2;rw[HE0.o]at Rr Hrl HBr;obtain⟨row,hrow⟩:=eX (sq[t]);rw[hrow]at Rr Hrl HBr;have HRow:=hZ hrow;clear hrow;have RX:=hZ (RS.o.x t);clear RS;have HWg:Hid (g≠R/\b7<g/\R<g):=hZ (by rw[<-HG.o];have:=HLR.o.2.2.2 t htl;have:=HLR.o;omega)
        go_wp2_with fail
        clear x0;have HR1:Hid (qDK m j t ((sq.map vec).drop (t+1)) (vec row) (vec row) (t+1)):=hZ (qDK.first Hrl.o)
        go_loopw [17] (fun i wr=>∃(p:Nat) (row1:List Int),t+1<=p/\p<=j/\i=.int .i64 p/\Hid (qDK m j t ((sq.map vec).drop (t+1)) (vec row) (vec row1) p)/\Hid (Bd m row1)/\Hid (row1.length=j)/\Hid (RwX wr R l j sq1 t)/\Hid (qAC wr g row1)/\Hid (Bx wr b7 m)/\Hid (Below w0.heap.size w0 wr)) (fun i _=>j-(intOf i).toNat)
        case atStart=>exact⟨t+1,row,by omega,by omega,by go_num,HR1,HBr,Hrl,RX,Rr,Fm,HB⟩
        case round=>
         clear HR1 HBr Hrl RX Rr Fm HB;obtain⟨p,row1,htp,hp,rfl,HR1,HB1,Hrl,RX,Rr,Fm,HB⟩:=hrel;obtain⟨w5,rfl⟩:=eY wr;by_cases hpj:p<j
         ·skip
          have j1:(0:Int)<=(p:Int):=by omega
          have j2:(p:Int)<(j:Int):=by omega
          have hpl2:p<l.length:=by rw[HLn.o];exact hpj
          have hps0:p<sq.length:=by rw[Hsl.o];exact hpj
          have hps1:p<sq1.length:=by rw[HRd.o.len];exact hps0
          obtain⟨gp,hgp⟩:=eX (l[p].1);obtain⟨cgp,hcgp⟩:=eX (l[p].2);have HGp:=hZ (And.intro hgp hcgp);clear hgp hcgp;have HEp:Hid (sq1[p]=sq[p]):=hZ (HRd.o.rest p hps1 hps0 (by omega));obtain⟨sp,hsp⟩:=eX (sq[p]);have HSp:=hZ hsp;obtain⟨-,t2,-⟩:=HTr.o.at_ p (by simpa using hps0);rw[List.getElem_map,Nat.zero_add,hsp]at t2;have HBsp:Hid (Bd m sp):=hZ (hsp▸HBq.o _ (List.getElem_mem _));have Rp0:∀w,RwX w R l j sq1 t->qAC w gp sp/\sp.length=j:=fun w h=>by have:=h.row p hpl2 (by omega);rw[HGp.o.1,HEp.o,HSp.o]at this;exact this
          have RP:=hZ Rp0;clear Rp0;have HSl:Hid (sp.length=j):=hZ (RP.o _ RX.o).2;have Hpr:Hid (p<row1.length):=hZ (by rw[Hrl.o];exact hpj);have Hpsp:Hid (p<sp.length):=hZ (by rw[HSl.o];exact hpj);obtain⟨x,hx⟩:=eX (row1[p]'Hpr.o);obtain⟨y,hy⟩:=eX (sp[p]'Hpsp.o);have Hx:=hZ hx;have Hy:=hZ hy;have HBx:Hid (0<=x/\x<=m):=hZ (hx▸HB1.o _ (List.getElem_mem _));have HBy:Hid (0<=y/\y<=m):=hZ (hy▸HBsp.o _ (List.getElem_mem _));have hy0:0<y:=by rw[qAp Hpsp.o,hy]at t2;exact t2
          have Sx:Hid (Sz 4000 x):=hZ (qGA Sm.o HBx.o);have Sy:Hid (Sz 4000 y):=hZ (qGA Sm.o HBy.o);clear hx hy hsp t2;have HNe:Hid (gp≠g/\R<gp):=hZ ⟨by rw[<-HGp.o.1,<-HG.o];exact RX.o.nodup p t hpl2 htl (by omega),by rw[<-HGp.o.1];exact HLR.o.2.2.2 p hpl2⟩
          go_wp2_with fail
          refine qEw (fun t ds a w'=>∃v94 v95 v96 v97 v98 v99 v100 v101 v102 v103 v104 v105 bq,a=⟨(((((((((((((t.setIfInBounds 18 (.pointer (some ⟨bq,0,none⟩)))).setIfInBounds 94 v94).setIfInBounds 95 v95).setIfInBounds 96 v96).setIfInBounds 97 v97).setIfInBounds 98 v98).setIfInBounds 99 v99).setIfInBounds 100 v100).setIfInBounds 101 v101).setIfInBounds 102 v102).setIfInBounds 103 v103).setIfInBounds 104 v104).setIfInBounds 105 v105,ds⟩/\Hid (Bx w' bq (x/y))/\Hid (Below w5.heap.size w5 w')/\Hid (w5.heap.size<=bq)) ?_ ?_
          ·skip
           have HJ:=hZ (Below.refl w5.heap.size w5);obtain⟨w6,hwd⟩:=eX w5.drew;have hB:=dB hwd;replace RX:=RX.b hB;replace Rr:=Rr.b hB;replace Fm:=Fm.b hB;replace HJ:=bT HJ hB;clear hB;have HBr:Hid (qAc (fun b=>w6.heap.size<=b) w6 w6):=hZ (qAc.refl _ _);refine qAU [13] (fun w'=>qAc (fun b=>w6.heap.size<=b) w6 w') (by kernel_rfl) (by rw[hwd];exact qAc.refl _ _) (fun hHeld=> ?_);rw[hwd]at hHeld ⊢;clear hwd;have e0:=RX.o.get p hpl2;rw[HGp.o.1,HGp.o.2]at e0;have Rp:=hZ (RP.o _ RX.o).1;obtain⟨s_x,a_x,n_x,c_x,d0x,d1x,h_x⟩:=Rr.o.get p Hpr.o;rw[Hx.o]at h_x;have Vx:=hZ h_x;clear h_x;obtain⟨s_y,a_y,n_y,c_y,d0y,d1y,h_y⟩:=Rp.o.get p Hpsp.o;rw[Hy.o]at h_y;have Vy:=hZ h_y;clear h_y;refine pU 0 94 ?_;refine pU 1 95 ?_;refine pU 2 96 ?_;refine tV 3 97 (cT (Nat.not_le_of_lt Rr.o.lt) d0x Rr.o.lt) (cT (Nat.not_le_of_lt Rr.o.lt) d1x Rr.o.lt) ?_;refine pU 4 98 ?_;refine pU 5 99 ?_;refine pU 6 100 ?_;refine tU 7 101 (cT (Nat.not_le_of_lt RX.o.lt) e0 RX.o.lt) ?_;refine pU 8 102 ?_;refine pU 9 103 ?_;refine tV 10 104 (cT (Nat.not_le_of_lt Rp.o.lt) d0y Rp.o.lt) (cT (Nat.not_le_of_lt Rp.o.lt) d1y Rp.o.lt) ?_;clear e0 d0x d1x d0y d1y Rp RX Rr Fm;have HJs:Hid (w5.heap.size<=w6.heap.size):=hZ HJ.o.size;refine qQF [11,12] [] 2 (fun t ds p a w=>∃v105 v18 bq,a=⟨((t).setIfInBounds 105 v105).setIfInBounds 18 v18,ds⟩/\Hid (Below w6.heap.size w6 w)/\(p 11=true->Hid (qAr w v105 (x/y)))/\(p 12=true->v18=.pointer (some ⟨bq,0,none⟩)/\Hid (Bx w bq 0)/\Hid (w6.heap.size<=bq))) ?_ (by kernel_rfl) (by decide) rfl rfl ⟨?_,?_,trivial⟩ ?_
           ·exact⟨_,_,0,by first|rfl|(simp only[sX1,sX2,sX3];rfl),hZ (Below.refl _ _),nofun,nofun⟩
           ·skip
            intro p a w7 hJ hp;obtain⟨v105,v18,bq,rfl,HBw,g11,g12⟩:=hJ;simp only[sX1,sX2,sX3];refine qCO 11 rfl (fun K hK=> ?_);replace Vx:=hZ (Vx.o.blw HBw.o);replace Vy:=hZ (Vy.o.blw HBw.o);go_simp;refine(qE3 (w:=w7) Vx.o Vy.o Sx.o Sy.o (by omega) (by omega) (by omega)).mono ?_;rintro e w8 ⟨s_q,a_q,n_q,c_q,rfl,h_q,hB⟩;exact hK.out _ _ (HBr.o.trans (qAc.of_below (HBw.o.trans (hB.mono HBw.o.size)))) ⟨_,v18,bq,by first|(simp only[Act.put];done)|(simp only[sX1,sX2,sX3];rfl),hZ (HBw.o.trans (hB.mono HBw.o.size)),fun _=>hZ h_q,fun h=>⟨(g12 h).1,hZ ((g12 h).2.1.o.blw hB),(g12 h).2.2⟩⟩
           ·skip
            intro p a w7 hJ hp;obtain⟨v105,v18,bq,rfl,HBw,g11,g12⟩:=hJ;simp only[sX1,sX2,sX3];refine qCO 12 rfl (fun K hK=> ?_);go_simp;obtain⟨w8,hw⟩:=eX (w7.alloc (.cells #[.bool false,.slice none 0 0] 73));have hB:=aB hw;have hx:Hid (Bx w8 w7.heap.size 0):=hZ (by rw[<-hw];exact Bx.new (qAJ _));rw[hw];clear hw;exact hK.out _ _ (HBr.o.trans (qAc.of_below (HBw.o.trans (hB.mono HBw.o.size)))) ⟨v105,_,w7.heap.size,by first|(simp only[Act.put];done)|(simp only[sX1,sX2,sX3];rfl),hZ (HBw.o.trans (hB.mono HBw.o.size)),fun h=>hZ ((g11 h).o.blw hB),fun _=>⟨rfl,hx,hZ HBw.o.size⟩⟩
           ·skip
            intro p a w7 hJ hp;obtain⟨v105,v18,bq,rfl,HBw,g11,g12⟩:=hJ;have Vq:=g11 (hp 11 (by simp));obtain⟨s_q,a_q,n_q,c_q,rfl⟩:=Vq.o.form4;obtain⟨rfl,Fq,hge_bq⟩:=g12 (hp 12 (by simp));replace hge_bq:w6.heap.size<=bq:=Nat.le_trans HBr.o.size hge_bq.o
            skip
            replace HBr:=hZ (HBr.o.trans (qAc.of_below HBw.o));have hB:=HBw.o;simp only[sX1,sX2,sX3];clear HBw;replace Vx:=Vx.b hB;replace Vy:=Vy.b hB;replace HJ:=bT HJ hB;clear hB;obtain⟨s_9,a_9,n_9,c_9,t_9,-⟩:=Fq.o;have e0:=t_9.cell0;have e1:=t_9.cell1;have e2:=t_9.frozen 0;have e3:=t_9.frozen 1;clear t_9;have hn9:qAi w7 (bq):=Fq.o.noInt;obtain⟨w8,hw⟩:=eX ((w7.setCell ⟨bq,0,none⟩ (.bool s_q)).setCell ⟨bq,1,none⟩ (.slice a_q n_q c_q));have hw2:st2 w7 (bq) (0) (1) s_q a_q n_q c_q=w8:=hw;replace Fq:=hZ (Bx.put Fq.o Vq.o);rw[hw2]at Fq;replace Vx:=hZ (Vx.o.offe hw2 hn9);replace Vy:=hZ (Vy.o.offe hw2 hn9);replace Vq:=hZ (Vq.o.offe hw2 hn9);replace HJ:=hZ (bO hw2 HJ.o (by have:=HJs.o;omega));clear hw2 hn9;refine lU 13 fun K hK=> ?_;go_simp
            try rw[hw]
            refine hK.out _ _ ?_;clear hK K
            try simp only[Act.put,sX1,sX2,sX3]
            clear hw e0 e1 e2 e3;refine dU ?_;clear hHeld;refine qA0 ⟨_,_,_,_,_,_,_,_,_,_,_,_,_,by first|rfl|(simp only[sX1,sX2,sX3];rfl),Fq,HJ,hZ (by have:=HJs.o;omega)⟩
          ·skip
           rintro a w6 ⟨v94,v95,v96,v97,v98,v99,v100,v101,v102,v103,v104,v105,bq,rfl,Fq,HJ,Hbq0⟩;simp only[sX1,sX2,sX3];have Hbq:Hid (g<bq/\gp<bq/\R<bq/\b7<bq/\w0.heap.size<=bq/\∀i (h:i<l.length),i≠t->l[i].1<bq):=hZ (by have h1:=Hbq0.o;have h2:=Rr.o.lt;have h3:=(RP.o _ RX.o).1.lt;have h4:=RX.o.lt;have h5:=Fm.o.lt;have h6:=HB.o.size;exact⟨by omega,by omega,by omega,by omega,by omega,fun i hi hij=>by have:=(RX.o.row i hi hij).1.lt;omega⟩);have hB:=HJ.o;clear HJ Hbq0;replace RX:=RX.b hB;replace Rr:=Rr.b hB;replace Fm:=Fm.b hB;replace HB:=bT HB hB;clear hB;obtain⟨qq,hqq⟩:=eX (x/y);rw[hqq]at Fq;have Hqq:=hZ hqq;have Sq:Hid (Sz 4001 qq):=hZ (hqq▸Sx.o.div (by omega));clear hqq;obtain⟨s_q,a_q,n_q,c_q,t_q,h_q⟩:=Fq.o;have d0q:=t_q.cell0;have d1q:=t_q.cell1;have Vq:=hZ h_q;clear t_q h_q
           go_wp2_with fail
           clear d0q d1q;by_cases hq0:qq=0
           ·skip
            refine(qAE (w:=w6) Vq.o Sq.o (by omega)).mono ?_;rintro e w7 ⟨he,hB⟩;rw[show qAV qq 0=0 by rw[hq0];exact qA7 0]at he;subst he;replace RX:=RX.b hB;replace Rr:=Rr.b hB;replace Fm:=Fm.b hB;replace Fq:=Fq.b hB;replace Vq:=Vq.b hB;replace HB:=bT HB hB;clear hB
            go_wp2_with fail
            go_roundw
            case rel=>exact⟨p+1,row1,by omega,by omega,by go_num,hZ (qH6.red HTr.o Hsl.o HR1.o (by omega) hpj Hrl.o (by rw[HSp.o,qAp Hpr.o,qAp Hpsp.o,Hx.o,Hy.o,Hqq.o]) (by rw[HSp.o];exact(hq0▸qH6.none Hrl.o HB1.o))),HB1,Hrl,RX,Rr,Fm,HB⟩
            case measure=>simp[intOf];omega
           ·skip
            refine(qAE (w:=w6) Vq.o Sq.o (by omega)).mono ?_;rintro e w7 ⟨he,hB⟩;obtain⟨sgq,hs9,q0q,q1q⟩:=qBn (x:=qq) hq0;rw[hs9]at he;subst he;clear hs9;replace RX:=RX.b hB;replace Rr:=Rr.b hB;replace Fm:=Fm.b hB;replace Fq:=Fq.b hB;replace Vq:=Vq.b hB;replace HB:=bT HB hB;clear hB
            go_wp2_with fail
            clear Vq;clear q0q q1q;obtain⟨w8,hwd⟩:=eX w7.drew;have hB:=dB hwd;replace RX:=RX.b hB;replace Rr:=Rr.b hB;replace Fm:=Fm.b hB;replace Fq:=Fq.b hB;replace HB:=bT HB hB;clear hB;have HBr:Hid (qAc (fun b=>False) w8 w8):=hZ (qAc.refl _ _);refine qAU [17] (fun w'=>qAc (fun b=>False) w8 w') (by kernel_rfl) (by rw[hwd];exact qAc.refl _ _) (fun hHeld=> ?_);rw[hwd]at hHeld ⊢;clear hwd;have e0:=RX.o.get p hpl2;rw[HGp.o.1,HGp.o.2]at e0;have Rp:=hZ (RP.o _ RX.o).1;obtain⟨s_x,a_x,n_x,c_x,d0x,d1x,h_x⟩:=Rr.o.get p Hpr.o;rw[Hx.o]at h_x;have Vx:=hZ h_x;clear h_x;obtain⟨s_y,a_y,n_y,c_y,d0y,d1y,h_y⟩:=Rp.o.get p Hpsp.o;rw[Hy.o]at h_y;have Vy:=hZ h_y;clear h_y;obtain⟨s_q,a_q,n_q,c_q,t_q,h_q⟩:=Fq.o;have d0q:=t_q.cell0;have d1q:=t_q.cell1;have Vq:=hZ h_q;clear t_q h_q;refine pU 0 109 ?_;refine pU 1 110 ?_;refine pU 2 111 ?_;refine pU 3 112 ?_;refine pU 4 113 ?_;refine tV 5 114 (cF d0x Rr.o.lt) (cF d1x Rr.o.lt) ?_;refine tV 6 115 (cF d0q Fq.o.lt) (cF d1q Fq.o.lt) ?_;refine pU 7 116 ?_;refine pU 8 117 ?_;refine pU 9 118 ?_;refine tU 10 119 (cF e0 RX.o.lt) ?_;refine pU 11 120 ?_;refine pU 12 121 ?_;refine tV 13 122 (cF d0y Rp.o.lt) (cF d1y Rp.o.lt) ?_;clear e0 d0x d1x d0y d1y Rp;clear d0q d1q;refine eU 14 fun K hK=> ?_;go_simp;refine(qBH (w:=w8) Vq.o Vy.o Sq.o Sy.o (by omega)).mono ?_;rintro e w9 ⟨s_s,a_s,n_s,c_s,rfl,h_s,hB⟩;have Vs:=hZ h_s;replace HBr:=oT HBr hB;replace RX:=RX.b hB;replace Rr:=Rr.b hB;replace Fm:=Fm.b hB;replace Fq:=Fq.b hB;replace Vx:=Vx.b hB;replace Vy:=Vy.b hB;replace Vq:=Vq.b hB;replace HB:=bT HB hB;clear hB;clear h_s;refine hK.out _ _ HBr.o (fun hHeld=> ?_);clear hK K
            try simp only[Act.put,sX1,sX2,sX3]
            refine eU 15 fun K hK=> ?_;go_simp;refine(qEG (w:=w9) (k:=8001) Vx.o Vs.o (Sx.o.mono (by omega)) (Sq.o.mul Sy.o) (by omega)).mono ?_;rintro e w10 ⟨s_z,a_z,n_z,c_z,rfl,h_z,hB⟩;have Vz:=hZ h_z;replace HBr:=oT HBr hB;replace RX:=RX.b hB;replace Rr:=Rr.b hB;replace Fm:=Fm.b hB;replace Fq:=Fq.b hB;replace Vx:=Vx.b hB;replace Vy:=Vy.b hB;replace Vq:=Vq.b hB;replace Vs:=Vs.b hB;replace HB:=bT HB hB;clear hB;clear h_z;refine hK.out _ _ HBr.o (fun hHeld=> ?_);clear hK K
            try simp only[Act.put,sX1,sX2,sX3]
            refine pU 16 125 ?_;obtain⟨s_9,a_9,n_9,c_9,e0,e1,-⟩:=Rr.o.get (p) Hpr.o;have e2:=Rr.o.frozen (p*2);have e3:=Rr.o.frozen (p*2+1);have hn9:qAi w10 (g):=Rr.o.noInt;obtain⟨w11,hw⟩:=eX ((w10.setCell ⟨g,p*2,none⟩ (.bool s_z)).setCell ⟨g,p*2+1,none⟩ (.slice a_z n_z c_z));have hw2:st2 w10 (g) (p*2) (p*2+1) s_z a_z n_z c_z=w11:=hw;replace Rr:=hZ (qAC.put' Rr.o (p) Hpr.o Vz.o);rw[hw2]at Rr;replace RX:=hZ (RwX.off (g:=g) (o1:=p*2) (o2:=p*2+1) (s:=s_z) (a:=a_z) (n':=n_z) (c:=c_z) RX.o hn9 ⟨HWg.o.1.symm,fun i hi hij e=>RX.o.nodup i t hi htl hij (e.trans HG.o.symm)⟩);rw[hw2]at RX;replace Fm:=hZ (Fm.o.offe hw2 hn9 (by have:=HWg.o;have:=Hbq.o;omega));replace Fq:=hZ (Fq.o.offe hw2 hn9 (by have:=HWg.o;have:=Hbq.o;omega));replace Vx:=hZ (Vx.o.offe hw2 hn9);replace Vy:=hZ (Vy.o.offe hw2 hn9);replace Vq:=hZ (Vq.o.offe hw2 hn9);replace Vs:=hZ (Vs.o.offe hw2 hn9);replace Vz:=hZ (Vz.o.offe hw2 hn9);replace HB:=hZ (bO hw2 HB.o (by have:=HWg.o;have:=HLR.o;omega));clear hw2 hn9;refine lU 17 fun K hK=> ?_;go_simp
            try rw[hw]
            refine hK.out _ _ ?_;clear hK K
            try simp only[Act.put,sX1,sX2,sX3]
            clear hw e0 e1 e2 e3;refine dU ?_;clear hHeld;clear Vx Vy Vq Vs Vz;have HK2:Hid (qH6 m qq j p (p+1) sp row1 (row1.set p (x-qq*y))):=hZ (by have h1:=qH6.start (m:=m) (q:=qq) (sj:=sp) Hrl.o hpj HB1.o (by rw[qAp Hpr.o,qAp Hpsp.o,Hx.o,Hy.o,Hqq.o]) (by rw[qAp Hpsp.o,Hy.o];exact⟨hy0,HBy.o.2⟩);rw[qAp Hpr.o,qAp Hpsp.o,Hx.o,Hy.o]at h1;exact h1)
            go_wp2_with fail
            go_loopw [19] (fun i wr=>∃(k:Nat) (row2:List Int),p+1<=k/\k<=j/\i=.int .i64 k/\Hid (qH6 m qq j p k sp row1 row2)/\Hid (RwX wr R l j sq1 t)/\Hid (qAC wr g row2)/\Hid (Bx wr bq qq)/\Hid (Bx wr b7 m)/\Hid (Below w0.heap.size w0 wr)) (fun i _=>j-(intOf i).toNat)
            case atStart=>exact⟨p+1,_,by omega,by omega,by go_num,HK2,RX,Rr,Fq,Fm,HB⟩
            case round=>
             clear HK2 RX Rr Fq Fm HB;obtain⟨k,row2,hpk,hk,rfl,HK2,RX,Rr,Fq,Fm,HB⟩:=hrel;obtain⟨w11,rfl⟩:=eY wr;by_cases hkj:k<j
             ·skip
              have k1:(0:Int)<=(k:Int):=by omega
              have k2:(k:Int)<(j:Int):=by omega
              have Hks:Hid (k<sp.length):=hZ (by rw[HSl.o];exact hkj);have Hkr:Hid (k<row2.length):=hZ (by rw[HK2.o.len];exact hkj);have e0:=RX.o.get p hpl2;rw[HGp.o.1,HGp.o.2]at e0;have Rp:=hZ (RP.o _ RX.o).1;obtain⟨s_u,a_u,n_u,c_u,d0u,d1u,h_u⟩:=Rp.o.get k Hks.o;obtain⟨u,hu⟩:=eX (sp[k]'Hks.o);rw[hu]at h_u;have Vu:=hZ h_u;have Hu:=hZ hu;have Su:Hid (Sz 4000 u):=hZ (qGA Sm.o (hu▸HBsp.o _ (List.getElem_mem _)));clear h_u hu
              go_wp2_with fail
              clear e0 d0u d1u Rp;by_cases hu0:u=0
              ·skip
               refine(qAE (w:=w11) Vu.o Su.o (by omega)).mono ?_;rintro e w12 ⟨he,hB⟩;rw[show qAV u 0=0 by rw[hu0];exact qA7 0]at he;subst he;replace RX:=RX.b hB;replace Rr:=Rr.b hB;replace Fq:=Fq.b hB;replace Fm:=Fm.b hB;replace Vu:=Vu.b hB;replace HB:=bT HB hB;clear hB
               go_wp2_with fail
               go_roundw
               case rel=>exact⟨k+1,row2,by omega,by omega,by go_num,hZ (HK2.o.skip (by omega) (by rw[qAp Hks.o,Hu.o];exact hu0)),RX,Rr,Fq,Fm,HB⟩
               case measure=>simp[intOf];omega
              ·skip
               refine(qAE (w:=w11) Vu.o Su.o (by omega)).mono ?_;rintro e w12 ⟨he,hB⟩;obtain⟨sgu,hs9,q0u,q1u⟩:=qBn (x:=u) hu0;rw[hs9]at he;subst he;clear hs9;replace RX:=RX.b hB;replace Rr:=Rr.b hB;replace Fq:=Fq.b hB;replace Fm:=Fm.b hB;replace Vu:=Vu.b hB;replace HB:=bT HB hB;clear hB
               go_wp2_with fail
               clear Vu;clear q0u q1u;obtain⟨w13,hwd⟩:=eX w12.drew;have hB:=dB hwd;replace RX:=RX.b hB;replace Rr:=Rr.b hB;replace Fq:=Fq.b hB;replace Fm:=Fm.b hB;replace HB:=bT HB hB;clear hB;have HBr:Hid (qAc (fun b=>False) w13 w13):=hZ (qAc.refl _ _);refine qAU [19] (fun w'=>qAc (fun b=>False) w13 w') (by kernel_rfl) (by rw[hwd];exact qAc.refl _ _) (fun hHeld=> ?_);rw[hwd]at hHeld ⊢;clear hwd;have e0:=RX.o.get p hpl2;rw[HGp.o.1,HGp.o.2]at e0;have Rp:=hZ (RP.o _ RX.o).1;obtain⟨s_x,a_x,n_x,c_x,d0x,d1x,h_x⟩:=Rr.o.get k Hkr.o;obtain⟨xx,hxx⟩:=eX (row2[k]'Hkr.o);rw[hxx]at h_x;have Vx:=hZ h_x;have Hxx:=hZ hxx;have Sxx:Hid (Sz 4000 xx):=hZ (qGA Sm.o (hxx▸HK2.o.bd _ (List.getElem_mem _)));clear h_x hxx;obtain⟨s_y,a_y,n_y,c_y,d0y,d1y,h_y⟩:=Rp.o.get k Hks.o;rw[Hu.o]at h_y;have Vy:=hZ h_y;clear h_y;obtain⟨s_q,a_q,n_q,c_q,t_q,h_q⟩:=Fq.o;have d0q:=t_q.cell0;have d1q:=t_q.cell1;have Vq:=hZ h_q;clear t_q h_q;obtain⟨s_m,a_m,n_m,c_m,t_m,h_m⟩:=Fm.o;have d0m:=t_m.cell0;have d1m:=t_m.cell1;have Vm:=hZ h_m;clear t_m h_m;refine pU 0 143 ?_;refine pU 1 144 ?_;refine pU 2 145 ?_;refine pU 3 146 ?_;refine pU 4 147 ?_;refine tV 5 148 (cF d0x Rr.o.lt) (cF d1x Rr.o.lt) ?_;refine tV 6 149 (cF d0q Fq.o.lt) (cF d1q Fq.o.lt) ?_;refine pU 7 150 ?_;refine pU 8 151 ?_;refine pU 9 152 ?_;refine tU 10 153 (cF e0 RX.o.lt) ?_;refine pU 11 154 ?_;refine pU 12 155 ?_;refine tV 13 156 (cF d0y Rp.o.lt) (cF d1y Rp.o.lt) ?_;refine tV 16 159 (cF d0m Fm.o.lt) (cF d1m Fm.o.lt) ?_;clear e0 d0x d1x d0y d1y Rp;clear d0q d1q d0m d1m;refine eU 14 fun K hK=> ?_;go_simp;refine(qBH (w:=w13) Vq.o Vy.o Sq.o Su.o (by omega)).mono ?_;rintro e w14 ⟨s_s,a_s,n_s,c_s,rfl,h_s,hB⟩;have Vs:=hZ h_s;replace HBr:=oT HBr hB;replace RX:=RX.b hB;replace Rr:=Rr.b hB;replace Fq:=Fq.b hB;replace Fm:=Fm.b hB;replace Vx:=Vx.b hB;replace Vy:=Vy.b hB;replace Vq:=Vq.b hB;replace Vm:=Vm.b hB;replace HB:=bT HB hB;clear hB;clear h_s;refine hK.out _ _ HBr.o (fun hHeld=> ?_);clear hK K
               try simp only[Act.put,sX1,sX2,sX3]
               refine eU 15 fun K hK=> ?_;go_simp;refine(qEG (w:=w14) (k:=8001) Vx.o Vs.o (Sxx.o.mono (by omega)) (Sq.o.mul Su.o) (by omega)).mono ?_;rintro e w15 ⟨s_v,a_v,n_v,c_v,rfl,h_v,hB⟩;have Vv:=hZ h_v;replace HBr:=oT HBr hB;replace RX:=RX.b hB;replace Rr:=Rr.b hB;replace Fq:=Fq.b hB;replace Fm:=Fm.b hB;replace Vx:=Vx.b hB;replace Vy:=Vy.b hB;replace Vq:=Vq.b hB;replace Vm:=Vm.b hB;replace Vs:=Vs.b hB;replace HB:=bT HB hB;clear hB;clear h_v;refine hK.out _ _ HBr.o (fun hHeld=> ?_);clear hK K
               try simp only[Act.put,sX1,sX2,sX3]
               refine eU 17 fun K hK=> ?_;go_simp;refine(qEe (w:=w15) (k:=8002) (l:=4000) Vv.o Vm.o ((Sxx.o.mono (by omega)).sub (Sq.o.mul Su.o)) Sm.o (by omega) (by omega) (by omega)).mono ?_;rintro e w16 ⟨s_z,a_z,n_z,c_z,rfl,h_z,hB⟩;have Vz:=hZ h_z;replace HBr:=oT HBr hB;replace RX:=RX.b hB;replace Rr:=Rr.b hB;replace Fq:=Fq.b hB;replace Fm:=Fm.b hB;replace Vx:=Vx.b hB;replace Vy:=Vy.b hB;replace Vq:=Vq.b hB;replace Vm:=Vm.b hB;replace Vs:=Vs.b hB;replace Vv:=Vv.b hB;replace HB:=bT HB hB;clear hB;clear h_z;refine hK.out _ _ HBr.o (fun hHeld=> ?_);clear hK K
               try simp only[Act.put,sX1,sX2,sX3]
               refine pU 18 161 ?_;obtain⟨s_9,a_9,n_9,c_9,e0,e1,-⟩:=Rr.o.get (k) Hkr.o;have e2:=Rr.o.frozen (k*2);have e3:=Rr.o.frozen (k*2+1);have hn9:qAi w16 (g):=Rr.o.noInt;obtain⟨w17,hw⟩:=eX ((w16.setCell ⟨g,k*2,none⟩ (.bool s_z)).setCell ⟨g,k*2+1,none⟩ (.slice a_z n_z c_z));have hw2:st2 w16 (g) (k*2) (k*2+1) s_z a_z n_z c_z=w17:=hw;replace Rr:=hZ (qAC.put' Rr.o (k) Hkr.o Vz.o);rw[hw2]at Rr;replace RX:=hZ (RwX.off (g:=g) (o1:=k*2) (o2:=k*2+1) (s:=s_z) (a:=a_z) (n':=n_z) (c:=c_z) RX.o hn9 ⟨HWg.o.1.symm,fun i hi hij e=>RX.o.nodup i t hi htl hij (e.trans HG.o.symm)⟩);rw[hw2]at RX;replace Fq:=hZ (Fq.o.offe hw2 hn9 (by have:=HWg.o;have:=Hbq.o;omega));replace Fm:=hZ (Fm.o.offe hw2 hn9 (by have:=HWg.o;have:=Hbq.o;omega));replace Vx:=hZ (Vx.o.offe hw2 hn9);replace Vy:=hZ (Vy.o.offe hw2 hn9);replace Vq:=hZ (Vq.o.offe hw2 hn9);replace Vm:=hZ (Vm.o.offe hw2 hn9);replace Vs:=hZ (Vs.o.offe hw2 hn9);replace Vv:=hZ (Vv.o.offe hw2 hn9);replace Vz:=hZ (Vz.o.offe hw2 hn9);replace HB:=hZ (bO hw2 HB.o (by have:=HWg.o;have:=HLR.o;omega));clear hw2 hn9;refine lU 19 fun K hK=> ?_;go_simp
               try rw[hw]
               refine hK.out _ _ ?_;clear hK K
               try simp only[Act.put,sX1,sX2,sX3]
               clear hw e0 e1 e2 e3;refine dU ?_;clear hHeld
               go_wp2_with fail
               go_roundw
               case rel=>exact⟨k+1,row2.set k ((xx-qq*u)%m),by omega,by omega,by go_num,hZ (HK2.o.step hm0 (by omega) hkj (by rw[qAp Hkr.o,qAp Hks.o,Hxx.o,Hu.o])),RX,Rr,Fq,Fm,HB⟩
               case measure=>simp[intOf];omega
             ·skip
              obtain rfl:k=j:=by omega
              go_wp2_with fail
              go_roundw
              case rel=>exact⟨p+1,row2,by omega,by omega,by go_num,hZ (qH6.red HTr.o Hsl.o HR1.o (by omega) hpj Hrl.o (by rw[HSp.o,qAp Hpr.o,qAp Hpsp.o,Hx.o,Hy.o,Hqq.o]) (by rw[HSp.o];exact HK2.o)),hZ HK2.o.bd,hZ HK2.o.len,RX,Rr,Fm,HB⟩
              case measure=>simp[intOf];omega
         ·skip
          obtain rfl:p=j:=by omega
          go_wp2_with fail
          go_roundw
          case rel=>exact⟨t+1,sq1.set t row1,by omega,by go_num,hZ (HRd.o.step hts1 hts (by rw[HRow.o];exact HR1.o) HB1.o),hZ (RX.o.close htl (by rw[HG.o];exact Rr.o) Hrl.o),Fm,HB⟩
          case measure=>simp[intOf];omega
       ·skip
        obtain rfl:t=j:=by omega
        go_wp2_with fail
        go_ret;exact⟨R,l,sq,sq1,by rw[HK.o];rfl,by rw[HK.o];exact RS.o,by rw[HK.o];exact HLn.o,by rw[HK.o];exact HQ1.o,by rw[HK.o];exact qOj.done (by rw[Hsl.o];exact HRd.o),HRd.o.bd,HB.o⟩
abbrev Ln:=Nat×Nat×Int
def lnC(n:Nat)(x:Ln):List Value:=[.slice (some ⟨x.1,0,none⟩) n x.2.1,.int .i64 x.2.2]
structure qCk(w:World)(B:Nat)(l:List Ln)(n:Nat)(M:List (List Int)):Prop where
 blk:qAf w B 230 (l.flatMap (lnC n))
 len:M.length=l.length
 row:∀i (h:i<l.length),qAC w l[i].1 (M[i]'(by omega))/\(M[i]'(by omega)).length=n
 nodup:∀i j (h:i<l.length) (h':j<l.length),i≠j->l[i].1≠l[j].1
 cap:∀i (h:i<l.length),n<=l[i].2.1/\l[i].2.1<=9223372036854775807
 apart:∀i (h:i<l.length),l[i].1≠B
section
variable {w w':World}{B n:Nat}{l:List Ln}{M:List (List Int)}
theorem qCk.blw(h:qCk w B l n M)(hb:Below w.heap.size w w'):qCk w' B l n M:=
 ⟨h.blk.blw hb,h.len,fun i hi=>⟨(h.row i hi).1.blw hb,(h.row i hi).2⟩,h.nodup,h.cap,h.apart⟩
instance:Mv w w' (qCk w B l n M) (qCk w' B l n M):=⟨fun hb h=>qCk.blw h hb⟩
theorem qCk.lt(h:qCk w B l n M):B<w.heap.size:=h.blk.lt
theorem qNg(n:Nat):∀(l:List Ln) (i:Nat) (h:i<l.length),(l.flatMap (lnC n))[i*2]? =some (.slice (some ⟨l[i].1,0,none⟩) n l[i].2.1)/\(l.flatMap (lnC n))[i*2+1]? =some (.int .i64 l[i].2.2)
 |x::r,0,_=>by simp[lnC]
 |x::r,i+1,h=>by
  have:=qNg n r i (by simpa using h);rw[show(i+1)*2=i*2+2 by omega,show i*2+2+1=i*2+1+2 by omega];simpa[lnC]using this
theorem qFW(n:Nat):∀(l:List Ln),(l.flatMap (lnC n)).length=l.length*2
 |[]=>rfl
 |x::r=>by rw[List.flatMap_cons,List.length_append,qFW n r];simp[lnC];omega
theorem qCk.get(h:qCk w B l n M)(i:Nat)(hi:i<l.length):w.cell? ⟨B,i*2,none⟩=some (.slice (some ⟨l[i].1,0,none⟩) n l[i].2.1)/\w.cell? ⟨B,i*2+1,none⟩=some (.int .i64 l[i].2.2):=
 ⟨(h.blk.cell _).trans (qNg n l i hi).1,(h.blk.cell _).trans (qNg n l i hi).2⟩
theorem qCk.frozen(h:qCk w B l n M)(o:Nat):w.frozen? ⟨B,o,none⟩=false:=h.blk.frozen o
theorem qIF{n:Nat}{l:List Ln}:∀u∈l.flatMap (lnC n),∀x,u≠ .int .u32 x:=by
 intro u hu x;obtain⟨y,_,hy⟩:=List.mem_flatMap.1 hu;rcases List.mem_cons.1 hy with rfl|hy
 ·intro e;cases e
 ·rw[List.mem_singleton.1 hy];intro e;cases e
theorem qCk.noInt(h:qCk w B l n M):qAi w B:=h.blk.noInt qIF
theorem qCk.turn{i:Nat}(h:qCk w B l n M)(hi:i<l.length){zs:List Int}(hz:zs.length=n)(hr:qAC w' l[i].1 zs)(ho:qAc (fun b=>b=l[i].1) w w'):qCk w' B l n (M.set i zs):=by
 have hN:∀b,b=l[i].1->qAi w b:=fun b e=>e▸(h.row i hi).1.noInt;refine⟨h.blk.only ho (fun e=>h.apart i hi e.symm),by rw[List.length_set];exact h.len,fun k hk=> ?_,h.nodup,h.cap,h.apart⟩;by_cases e:k=i
 ·subst e
  rw[List.getElem_set_self];exact⟨hr,hz⟩
 ·rw[List.getElem_set_ne (Ne.symm e)]
  exact⟨(h.row k hk).1.only ho hN (fun e2=>h.nodup k i hk hi e e2),(h.row k hk).2⟩
theorem qCk.only{S:Nat->Prop}(h:qCk w B l n M)(ho:qAc S w w')(hS:∀b,S b->qAi w b)(hB:¬S B)(hr:∀i (hi:i<l.length),¬S l[i].1):qCk w' B l n M:=
 ⟨h.blk.only ho hB,h.len,fun i hi=>⟨(h.row i hi).1.only ho hS (hr i hi),(h.row i hi).2⟩,h.nodup,h.cap,h.apart⟩
theorem qJQ(n:Nat):∀(l:List Ln) (i:Nat) (x:Ln),i<l.length->(l.set i x).flatMap (lnC n)=((l.flatMap (lnC n)).set (i*2) (.slice (some ⟨x.1,0,none⟩) n x.2.1)).set (i*2+1) (.int .i64 x.2.2)
 |y::r,0,x,_=>by simp[lnC]
 |y::r,i+1,x,h=>by
  have:=qJQ n r i x (by simpa using h);rw[show(i+1)*2=i*2+2 by omega,show i*2+2+1=i*2+1+2 by omega];simp[lnC,this]
theorem qCk.swap(h:qCk w B l n M)(i k:Nat)(hi:i<l.length)(hk:k<l.length):
 qCk ((((w.setCell ⟨B,i*2,none⟩ (.slice (some ⟨l[k].1,0,none⟩) n l[k].2.1)).setCell ⟨B,i*2+1,none⟩ (.int .i64 l[k].2.2)).setCell ⟨B,k*2,none⟩ (.slice (some ⟨l[i].1,0,none⟩) n l[i].2.1)).setCell ⟨B,k*2+1,none⟩ (.int .i64 l[i].2.2)) B (qAH l i k hi hk) n (qAH M i k (by rw[h.len];exact hi) (by rw[h.len];exact hk)):=by
 have hb:=(((h.blk.set (i*2) (.slice (some ⟨l[k].1,0,none⟩) n l[k].2.1)).set (i*2+1) (.int .i64 l[k].2.2)).set (k*2) (.slice (some ⟨l[i].1,0,none⟩) n l[i].2.1)).set (k*2+1) (.int .i64 l[i].2.2);have e:qAH l i k hi hk=(l.set i l[k]).set k l[i]:=rfl;have e2:(qAH l i k hi hk).flatMap (lnC n)=((((l.flatMap (lnC n)).set (i*2) (.slice (some ⟨l[k].1,0,none⟩) n l[k].2.1)).set (i*2+1) (.int .i64 l[k].2.2)).set (k*2) (.slice (some ⟨l[i].1,0,none⟩) n l[i].2.1)).set (k*2+1) (.int .i64 l[i].2.2):=by
  rw[e,qJQ n _ k _ (by simpa using hk),qJQ n l i _ hi]
 have hof:qAc (fun b=>b=B) w ((((w.setCell ⟨B,i*2,none⟩ (.slice (some ⟨l[k].1,0,none⟩) n l[k].2.1)).setCell ⟨B,i*2+1,none⟩ (.int .i64 l[k].2.2)).setCell ⟨B,k*2,none⟩ (.slice (some ⟨l[i].1,0,none⟩) n l[i].2.1)).setCell ⟨B,k*2+1,none⟩ (.int .i64 l[i].2.2)):=
  ((((qAc.refl (fun b=>b=B) w).set (p:=⟨B,i*2,none⟩) rfl _).set (p:=⟨B,i*2+1,none⟩) rfl _).set (p:=⟨B,k*2,none⟩) rfl _).set (p:=⟨B,k*2+1,none⟩) rfl _
 have hN:∀b,b=B->qAi w b:=fun b e=>e▸h.noInt;have hl:(qAH l i k hi hk).length=l.length:=qAe;have hsw:∀q (hq:q<(qAH l i k hi hk).length),∃p,∃hp:p<l.length,(qAH l i k hi hk)[q]=l[p]/\(qAH M i k (by rw[h.len];exact hi) (by rw[h.len];exact hk))[q]'(by rw[qAe,h.len,<-hl];exact hq)=M[p]'(by rw[h.len];exact hp)/\p=if q=k then i else if q=i then k else q:=fun q hq=>by
  rw[hl]at hq;rw[qAx q hq,qAx q (by rw[h.len];exact hq)];by_cases h1:q=k
  ·exact⟨i,hi,by rw[if_pos h1],by rw[if_pos h1],by rw[if_pos h1]⟩
  ·by_cases h2:q=i
   ·exact⟨k,hk,by rw[if_neg h1,if_pos h2],by rw[if_neg h1,if_pos h2],by rw[if_neg h1,if_pos h2]⟩
   ·exact⟨q,hq,by rw[if_neg h1,if_neg h2],by rw[if_neg h1,if_neg h2],by rw[if_neg h1,if_neg h2]⟩
 refine⟨by rw[e2];exact hb,by rw[qAe,qAe];exact h.len,fun q hq=> ?_,fun a b ha hb2 hab=> ?_,fun q hq=> ?_,fun q hq=> ?_⟩
 ·obtain⟨p,hp,e1,e3,-⟩:=hsw q hq
  rw[e1,e3];exact⟨(h.row p hp).1.only hof hN (h.apart p hp),(h.row p hp).2⟩
 ·obtain⟨p,hp,e1, -,e3⟩:=hsw a ha
  obtain⟨p',hp',e4, -,e5⟩:=hsw b hb2;rw[e1,e4];refine h.nodup p p' hp hp' ?_;rw[e3,e5]
  split<;>split<;>(try split)<;>(try split)<;>omega
 ·obtain⟨p,hp,e1, -,-⟩:=hsw q hq
  rw[e1];exact h.cap p hp
 ·obtain⟨p,hp,e1, -,-⟩:=hsw q hq
  rw[e1];exact h.apart p hp
end
theorem WOf.cells{w:World}{a:Option Addr}{n c:Nat}{zs:List Int}(h:WOf w (.slice a n c) zs)(h0:0<zs.length):
 ∃b cs,a=some ⟨b,0,none⟩/\n=zs.length/\cs.length=zs.length*2/\(∀j u,cs[j]? =some u->w.cell? ⟨b,j,none⟩=some u)/\∀tl:List Value,(∀u∈tl,u=.bool false\/u=.slice none 0 0)->WCs w (cs++tl) zs:=by
 obtain⟨b,cap,s,a',n',c',hv, -, -, -,-⟩:=h.at_ 0 h0;injection hv with e1 e2 e3;subst e1 e3;refine⟨b,(List.range zs.length).flatMap (fun j=>[(w.cell? ⟨b,j*2,none⟩).getD (.bool false),(w.cell? ⟨b,j*2+1,none⟩).getD (.bool false)]),rfl,e2,flen _ _ _,?_,?_⟩
 ·intro j u hu
  have hj:j<zs.length*2:=by
   rcases Nat.lt_or_ge j (zs.length*2)with h|h
   ·exact h
   ·rw[List.getElem?_eq_none (by rw[flen];exact h)]at hu;cases hu
  obtain⟨b2,cap2,s,a',n',c',hv, -,h1,h2,-⟩:=h.at_ (j/2) (by omega);injection hv with f1 f2 f3;injection f1 with f1;injection f1 with f1;subst f1;have h3:=flat2 (fun j=>(w.cell? ⟨b,j*2,none⟩).getD (.bool false)) (fun j=>(w.cell? ⟨b,j*2+1,none⟩).getD (.bool false)) zs.length (j/2) (by omega);rcases Nat.mod_two_eq_zero_or_one j with e|e
  ·have e2:j/2*2=j:=by omega
   rw[e2]at h1 h3;rw[h3.1]at hu;injection hu with hu;rw[<-hu];simp only[e2]at *;rw[h1];rfl
  ·have e2:j/2*2+1=j:=by omega
   rw[e2]at h2 h3;rw[h3.2]at hu;injection hu with hu;rw[<-hu];simp only[e2]at *;rw[h2];rfl
 ·intro tl htl
  have key:∀j (hj:j<zs.length),∃a n c,((List.range zs.length).flatMap (fun j=>[(w.cell? ⟨b,j*2,none⟩).getD (.bool false),(w.cell? ⟨b,j*2+1,none⟩).getD (.bool false)]))[j*2]? =some (.bool (decide (zs[j]<0)))/\((List.range zs.length).flatMap (fun j=>[(w.cell? ⟨b,j*2,none⟩).getD (.bool false),(w.cell? ⟨b,j*2+1,none⟩).getD (.bool false)]))[j*2+1]? =some (.slice a n c)/\qAr w (.agg #[.bool (decide (zs[j]<0)),.slice a n c]) zs[j]:=by
   intro j hj;obtain⟨b2,cap2,s,a',n',c',hv, -,h1,h2,h3⟩:=h.at_ j hj;injection hv with f1 f2 f3;injection f1 with f1;injection f1 with f1;subst f1;have h4:=flat2 (fun j=>(w.cell? ⟨b,j*2,none⟩).getD (.bool false)) (fun j=>(w.cell? ⟨b,j*2+1,none⟩).getD (.bool false)) zs.length j hj;have hs:s=decide (zs[j]<0):=by
    obtain⟨vw,hv,hm⟩:=h3;injection hv with hv;have h9:=congrArg (fun x=>x[0]?) hv;simp at h9;exact h9
   subst hs;refine⟨a',n',c',?_,?_,h3⟩
   ·rw[h4.1,h1];rfl
   ·rw[h4.2,h2];rfl
  have hlen:((List.range zs.length).flatMap (fun j=>[(w.cell? ⟨b,j*2,none⟩).getD (.bool false),(w.cell? ⟨b,j*2+1,none⟩).getD (.bool false)])).length=zs.length*2:=flen _ _ _;refine⟨by rw[List.length_append,hlen];omega,?_,fun j hj=> ?_⟩
  ·intro u hu x
   rcases List.mem_append.1 hu with hu|hu
   ·obtain⟨i,hi,rfl⟩:=List.mem_iff_getElem.1 hu
    rw[hlen]at hi;obtain⟨a1,a2,a3,k1,k2,-⟩:=key (i/2) (by omega);intro e;rcases Nat.mod_two_eq_zero_or_one i with e2|e2
    ·rw[show i/2*2=i by omega,List.getElem?_eq_getElem (by rw[hlen];exact hi),e]at k1
     cases k1
    ·rw[show i/2*2+1=i by omega,List.getElem?_eq_getElem (by rw[hlen];exact hi),e]at k2
     cases k2
   ·rcases htl u hu with rfl|rfl<;>intro e<;>cases e
  ·obtain⟨a1,a2,a3,k1,k2,k3⟩:=key j hj
   exact⟨a1,a2,a3,by rw[List.getElem?_append_left (by rw[hlen];omega)];exact k1,by rw[List.getElem?_append_left (by rw[hlen];omega)];exact k2,k3⟩
where
 flen (f g:Nat->Value) (n:Nat):((List.range n).flatMap (fun j=>[f j,g j])).length=n*2:=by
  have key:∀L:List Nat,(L.flatMap (fun j=>[f j,g j])).length=L.length*2:=by
   intro L
   induction L with
   |nil=>rfl
   |cons x L ih=>rw[List.flatMap_cons,List.length_append,ih];simp;omega
  rw[key,List.length_range]
 flat2 (f g:Nat->Value) (n j:Nat) (hj:j<n):((List.range n).flatMap (fun j=>[f j,g j]))[j*2]? =some (f j)/\((List.range n).flatMap (fun j=>[f j,g j]))[j*2+1]? =some (g j):=by
  have key:∀(L:List Nat) (j:Nat) (h:j<L.length),(L.flatMap (fun j=>[f j,g j]))[j*2]? =some (f L[j])/\(L.flatMap (fun j=>[f j,g j]))[j*2+1]? =some (g L[j]):=by
   intro L
   induction L with
   |nil=>intro j h;simp at h
   |cons x L ih=>
    intro j h;cases j with
    |zero=>simp
    |succ j=>
     have:=ih j (by simpa using h);rw[show(j+1)*2=j*2+2 by omega,show j*2+2+1=j*2+1+2 by omega];simpa using this
  have:=key (List.range n) j (by simpa using hj);simpa using this
def qLH(l:List Rw):List Ln:=l.mapIdx (fun i x=>(x.1,x.2,(i:Int)))
theorem qBN(l:List Rw):(qLH l).length=l.length:=by simp[qLH]
theorem qEI(l:List Rw)(i:Nat)(h:i<l.length):(qLH l)[i]'(by rw[qBN];exact h)=(l[i].1,l[i].2,(i:Int)):=by simp[qLH]
theorem qNf(l:List Rw)(x:Rw):qLH (l++[x])=qLH l++[(x.1,x.2,(l.length:Int))]:=by simp[qLH,List.mapIdx_append]
def lnP(n:Nat)(l:List Rw)(k:Nat):List Value:=(qLH l).flatMap (lnC n)++lnZ k
theorem qNe{n k:Nat}{l:List Rw}:∀u∈lnP n l k,∀x,u≠ .int .u32 x:=by
 intro u hu x;rcases List.mem_append.1 hu with h|h
 ·exact qIF u h x
 ·obtain⟨i,hi,rfl⟩:=List.mem_iff_getElem.1 h
  rw[qJP]at hi;have:=qNb k i hi;rw[List.getElem?_eq_getElem (by rw[qJP];exact hi)]at this;injection this with this;rw[this];rcases Nat.mod_two_eq_zero_or_one i with e|e<;>rw[e]<;>intro e2<;>cases e2
theorem qQn{n k g j:Nat}{l:List Rw}(c:Nat)(h:l.length=j):((lnP n l (k+1)).set (j*2) (.slice (some ⟨g,0,none⟩) n c)).set (j*2+1) (.int .i64 (j:Int))=lnP n (l++[(g,c)]) k:=by
 subst h;unfold lnP;have h1:((qLH l).flatMap (lnC n)).length=l.length*2:=by rw[qFW,qBN]
 rw[List.set_append_right _ _ (by omega),List.set_append_right _ _ (by omega),h1,qDw,qNf,List.flatMap_append];simp[lnC]
theorem qKM{n k j:Nat}{l:List Rw}(h:l.length=j):(lnP n l (k+1))[j*2]? =some (.slice none 0 0)/\(lnP n l (k+1))[j*2+1]? =some (.int .i64 0):=by
 subst h;unfold lnP;have h1:((qLH l).flatMap (lnC n)).length=l.length*2:=by rw[qFW,qBN]
 rw[List.getElem?_append_right (by omega),List.getElem?_append_right (by omega),h1,qDw];simp
theorem qCk.of_rows{w:World}{B n:Nat}{l:List Rw}{M:List (List Int)}(hb:qAf w B 230 (lnP n l 0))(hr:qAB w l n M)(ha:∀i (h:i<l.length),l[i].1≠B):qCk w B (qLH l) n M:=by
 refine⟨by simpa[lnP,lnZ]using hb,by rw[qBN];exact hr.len,fun i hi=> ?_,fun i j hi hj hij=> ?_,fun i hi=> ?_,fun i hi=> ?_⟩
 ·rw[qBN]at hi
  rw[qEI l i hi];exact hr.row i hi
 ·rw[qBN]at hi hj
  rw[qEI l i hi,qEI l j hj];exact hr.nodup i j hi hj hij
 ·rw[qBN]at hi
  rw[qEI l i hi];exact hr.cap i hi
 ·rw[qBN]at hi
  rw[qEI l i hi];exact ha i hi
theorem qNi(v:Value)(M:List (List Int))(n:Nat)(w0:World)(h:qJk w0 v M)(hm:M.length<=1000)(hn:∀r∈M,r.length=n)(hn0:0<n)(hn2:n<=1000):
 Calls Tryz.prog 145 #[v] w0 fun e w'=>∃B l,e=.returned (.slice (some ⟨B,0,none⟩) M.length M.length)/\qCk w' B l n M/\l.length=M.length/\w0.heap.size<=B/\(∀i (h:i<l.length),w0.heap.size<=l[i].1)/\Below w0.heap.size w0 w':=by
 have H:=hZ h;obtain⟨av,cv,rfl,q1,q2⟩:=qAb.form h;have Hn:=hZ hn;have HB:=hZ (Below.refl w0.heap.size w0);clear h hn
 go_enter Tryz.func145,Tryz.ntmps145
 go_wp2_with (at_make;refine qEx rfl rfl (M.length) rfl rfl rfl rfl (by omega) ?_)
 intro w1 h_9 hB hlt9;obtain⟨B,hb⟩:=eX w0.heap.size;rw[hb]at h_9 ⊢;have Ob':=hZ h_9;have hge_B:Hid (w0.heap.size<=B):=hZ (Nat.le_of_eq hb);have hlt_B:Hid (B<w1.heap.size):=hZ (by rw[<-hb];exact hlt9);clear h_9 hb hlt9;replace HB:=bT HB hB;clear hB;have Ob:=Ob';clear Ob'
 go_wp2_with fail
 have HgR:Hid (w0.heap.size<=B):=hZ hge_B.o;clear hge_B hlt_B
 go_loopw [11] (fun i wr=>∃(j:Nat) (l:List Rw),j<=M.length/\i=.int .i64 j/\Hid (l.length=j/\(∀k (h:k<l.length),B<l[k].1))/\Hid (qAf wr B 230 (lnP n l (M.length-j)))/\Hid (qAB wr l n (M.take j))/\Hid (Below w0.heap.size w0 wr)) (fun i _=>M.length-(intOf i).toNat)
 case atStart=>exact⟨0,[],by omega,rfl,hZ ⟨rfl,fun k h=>by simp at h⟩,hZ (by simpa[lnP,qLH]using Ob.o),hZ (qAB.nil _ _),HB⟩
 case round=>
  clear HB Ob;obtain⟨j,l,hj,rfl,HL,Ob,RI,HB⟩:=hrel;obtain⟨w1,rfl⟩:=eY wr;by_cases hlt:j<M.length
  ·skip
   obtain⟨b,cap,a,c,hv,hb,n1,HI,g1,g2⟩:=H.o.at_ j hlt;injection hv with f1 f2 f3;subst f1;clear f2 f3;have Hr:Hid (M[j].length=n):=hZ (Hn.o _ (List.getElem_mem hlt));have HM:Hid (M.take (j+1)=M.take j++[M[j]]):=hZ (by rw[List.take_succ_eq_append_getElem hlt]);replace n1:=(HB.o.cell (p:=⟨b,j,none⟩) hb).trans n1;replace HI:=hZ (HI.blw HB.o);generalize M[j]=r at *;obtain⟨br,cs,rfl, -,hcl,hcs,hwc⟩:=HI.o.cells (by have:=Hr.o;omega);have HCS:=hZ hcs;have HWC:=hZ hwc;rw[Hr.o]at n1 hcl;have Hcl:=hZ hcl;clear hcl HI hcs hwc g1;have i1:(0:Int)<=(j:Int):=by omega
   have i2:(j:Int)<(M.length:Int):=by omega
   go_wp2_with (at_builtin;refine qJv rfl _ _ rfl rfl br n _ cs rfl Hcl.o HCS.o hn0 (by omega) ?_)
   intro cap9 tl hc1 hc2 htl;obtain⟨w2,hw⟩:=eX ((w1.alloc (.cells (cs++tl).toArray 73)).drew);have hB:Below w1.heap.size w1 w2:=by rw[<-hw];exact aR.drew
   obtain⟨g,hg⟩:=eX w1.heap.size;have Rr':Hid (qAC w2 g r):=hZ ⟨cs++tl,by rw[<-hw,<-hg];exact(qAf.new w1 _ _).drew,(HWC.o tl htl).below hB⟩;have HLg:Hid ((∀k (h:k<l.length),l[k].1<g)/\B<g):=hZ ⟨fun k h=>by rw[<-hg];exact RI.o.lt k h,by rw[<-hg];exact Ob.o.lt⟩;rw[hw,hg];clear hw hg HCS HWC Hcl htl;replace Ob:=Ob.b hB;replace RI:=RI.b hB;replace HB:=bT HB hB;clear hB;have Rr:=Rr';clear Rr';have Hk:Hid (M.length-j=(M.length-(j+1))+1):=hZ (by omega);rw[Hk.o]at Ob;have e0:w2.cell? ⟨B,j*2,none⟩=some (.slice none 0 0):=(Ob.o.cell _).trans (qKM HL.o.1).1;have e1:w2.cell? ⟨B,j*2+1,none⟩=some (.int .i64 0):=(Ob.o.cell _).trans (qKM HL.o.1).2;have e20:=Ob.o.frozen (j*2);have e21:=Ob.o.frozen (j*2+1);obtain⟨w3,hw⟩:=eX (((w2.setCell ⟨B,j*2,none⟩ (.slice (some ⟨g,0,none⟩) n cap9)).setCell ⟨B,j*2+1,none⟩ (.int .i64 (j:Int))));have ho:qAc (fun b=>b=B) w2 w3:=by rw[<-hw];exact(((qAc.refl (fun b=>b=B) _).set (p:=⟨B,j*2,none⟩) rfl _).set (p:=⟨B,j*2+1,none⟩) rfl _)
   have hN:∀b,b=B->qAi w2 b:=fun b e=>e▸Ob.o.noInt qNe;replace Ob:=hZ ((by have h1:=(Ob.o.set (j*2) (.slice (some ⟨g,0,none⟩) n cap9)).set (j*2+1) (.int .i64 (j:Int));rw[hw,qQn cap9 HL.o.1]at h1;exact h1));replace RI:=hZ (RI.o.only ho hN (fun i hi=>by intro (e:_=B);have:=HL.o.2 i hi;omega));replace Rr:=hZ (Rr.o.only ho hN (by intro (e:_=B);have:=HLg.o.2;omega));replace HB:=hZ (qAY HB.o ho (fun b e=>by have:=HgR.o;omega) HB.o.size);clear ho hN
   go_wp2_with fail
   go_roundw
   case rel=>exact⟨j+1,l++[(g,cap9)],by omega,by go_num,hZ ⟨by have:=HL.o.1;simp;omega,qDo (P:=fun(x:Rw)=>B<x.1) HL.o.2 HLg.o.2⟩,Ob,hZ (by rw[HM.o];exact RI.o.snoc Rr.o Hr.o (fun i hi=>by have:=HLg.o.1 i hi;omega) hc1 hc2),HB⟩
   case measure=>simp[intOf];omega
  ·skip
   obtain rfl:j=M.length:=by omega
   go_wp2_with fail
   go_ret;have h1:=Ob.o;rw[Nat.sub_self]at h1;have h2:=RI.o;rw[List.take_of_length_le (Nat.le_refl _)]at h2;exact⟨B,qLH l,rfl,qCk.of_rows h1 h2 (fun i hi=>by have:=HL.o.2 i hi;omega),by rw[qBN];exact HL.o.1,HgR.o,fun i hi=>by rw[qBN]at hi;rw[qEI l i hi];have:=HL.o.2 i hi;have:=HgR.o;show _<=l[i].1;omega,HB.o⟩
def noU(u:Value):Prop:=∀x,u≠ .int .u32 x
theorem qDV{w:World}{g:Nat}{cs:Array Value}{t:TypeId}{fz:Nat×Nat}(h:w.heap[g]? =some (.cells cs t fz))(hc:∀u∈cs,noU u):qAi w g:=by
 intro o x he;unfold World.cell? at he;simp only[h]at he;simp only[Option.isSome_none,Bool.false_eq_true,if_false]at he;exact hc _ (Array.mem_of_getElem? he) x rfl
theorem qIz{w:World}{g:Nat}{cs:Array Value}{t:TypeId}{fz:Nat×Nat}(h:w.heap[g]? =some (.cells cs t fz))(hn:qAi w g):∀u∈cs,noU u:=by
 intro u hu x e;obtain⟨i,hi,rfl⟩:=Array.mem_iff_getElem.1 hu;refine hn i x ?_;unfold World.cell?;simp only[h];simp[hi,e]
def qCY(w:World)(base:Nat)(e:TypeId)(size:Nat)(v:Value)(n:Nat)(xs:List Value):Prop:=w.ownsRow base e size v n xs/\∀g,v.ownBlock=some g->qAi w g
theorem qCY.nil(w:World)(base:Nat)(e:TypeId)(size:Nat):qCY w base e size (.slice none 0 0) 0 []:=⟨World.ownsRow_nil w base e size,fun g h=>by simp[Value.ownBlock]at h⟩
theorem qCY.lt{w:World}{base:Nat}{e:TypeId}{size:Nat}{v:Value}{n:Nat}{xs:List Value}(h:qCY w base e size v n xs):∀k,v.ownBlock=some k->base<=k/\k<w.heap.size:=h.1.lt
theorem qCY.blw{w w':World}{base:Nat}{e:TypeId}{size:Nat}{v:Value}{n:Nat}{xs:List Value}(h:qCY w base e size v n xs)(hb:Below w.heap.size w w'):qCY w' base e size v n xs:=
 ⟨h.1.kept ⟨hb.os,hb.tape,hb.output,hb.size,fun k hk _=>hb.block k hk⟩ (row:=none) (by
  cases hv:v.ownBlock with
  |none=>exact .inl rfl
  |some g=>exact .inr (by simp)),fun g hg=>(h.2 g hg).below hb (h.1.lt g hg).2⟩
instance {w w':World} {base:Nat} {e:TypeId} {size:Nat} {v:Value} {n:Nat} {xs:List Value}:Mv w w' (qCY w base e size v n xs) (qCY w' base e size v n xs):=⟨fun hb h=>qCY.blw h hb⟩
theorem qCY.only{w w':World}{S:Nat->Prop}{base:Nat}{e:TypeId}{size:Nat}{v:Value}{n:Nat}{xs:List Value}(h:qCY w base e size v n xs)(ho:qAc S w w')(hS:∀g,v.ownBlock=some g->¬S g):qCY w' base e size v n xs:=by
 have hk:∀g,v.ownBlock=some g->w'.heap[g]? =w.heap[g]? :=fun g hg=>ho.block g (h.1.lt g hg).2 (hS g hg);refine⟨⟨h.1.1,?_⟩,fun g hg o x he=>h.2 g hg o x ((World.cell?_of_block (a:=⟨g,o,none⟩) (hk g hg)).symm.trans he)⟩;rcases h.1.2 with h1|⟨g,cap,cur,hv,hb,hh,rest⟩
 ·exact .inl h1
 ·exact .inr ⟨g,cap,cur,hv,hb,(hk g (by rw[hv];rfl)).trans hh,rest⟩
theorem qIx{o:Oper}{a:Act}{w:World}{K:Act->World->Prop}{Q:Exit->Act->World->Prop}(s x:Operand)(t:TypeId)
 (ho:o.op=.call { callee:=.builtin .append,args:=#[s,x],argTypes:=#[t,t] })
 (base:Nat)(e:TypeId)(i:TypeInfo)(z:Value)(size bytes:Nat)(ht:Tryz.prog.underlying t=some (.slice e))(hi:Tryz.prog.info? e=some i)(hz:i.zero=some z)
 (hsize:i.size=size)(hby:i.bytes=bytes)(hzs:z.cells.size=size)(hsz:0<size)(hzn:∀u∈z.cells,noU u)
 (v:Value)(n:Nat)(xs:List Value)(hs:a.eval s=v)(hown:qCY w base e size v n xs)
 (ad:Addr)(m c:Nat)(news:List Value)(hx:a.eval x=.slice (some ad) m c)(hl:news.length=m*size)(hnews:∀j u,news[j]? =some u->w.cell? (ad.add j)=some u)(h1:∀u∈news,u.oneCell'=true)(hnn:∀u∈news,noU u)(hm:0<m)
 (h63:n+m<=maxLen)(hbytes:(n+m)*bytes<=140737488355328)(hbase:base<=w.heap.size)
 (h:∀v' w',qCY w' base e size v' (n+m) (xs++news)->qAc (fun b=>v.ownBlock=some b) w w'->K (a.put o.dst v') w'):Oper.wp Tryz.prog o a w K Q:=by
 obtain⟨v',w',hr,h2,h3,-⟩:=run_append_own (P:=Tryz.prog) w base t o.type e i z size bytes ht hi hz hsize hby hzs hsz v n xs hown.1 ad m c news hl hnews h1 h63 hbytes hbase;have hon:qAc (fun b=>v.ownBlock=some b) w w':=⟨h3.os,h3.tape,h3.output,h3.size,fun k hk hn=>h3.block k hk (fun e=>hn e.symm)⟩;have hxs:∀u∈xs,noU u:=by
  intro u hu y e2;rcases hown.1.2 with ⟨rfl,rfl⟩|⟨g,cap,cur,hv,hb,hh,hn,hm,hs2,ht2⟩
  ·have:xs=[]:=List.eq_nil_of_length_eq_zero (by simpa using hown.1.1)
   rw[this]at hu;cases hu
  ·refine qIz hh (hown.2 g (by rw[hv];rfl)) u ?_ y e2
   rw[<-ht2]at hu;exact Array.mem_toList_iff.1 (List.mem_of_mem_take hu)
 have hzc:∀k,∀u∈Builtin.zeroCells z.cells k,noU u:=fun k u hu=>hzn u (qD4 hu (by omega));have hbig:∀k,∀u∈xs.toArray++news.toArray++Builtin.zeroCells z.cells k,noU u:=fun k u hu=>by
  simp only[Array.mem_append,List.mem_toArray]at hu;rcases hu with (hu|hu)|hu
  ·exact hxs u hu
  ·exact hnn u hu
  ·exact hzc k u hu
 have hN:∀g,v'.ownBlock=some g->qAi w' g:=by
  subst hsize hby;rcases hown.1.2 with ⟨rfl,rfl⟩|⟨g,cap,cur,rfl,hbg,hg,hnc,hcm,hcs,htake⟩
  ·have hx0:xs=[]:=List.eq_nil_of_length_eq_zero (by simpa using hown.1.1)
   subst hx0;have hr2:=run_append_nil (P:=Tryz.prog) w t o.type e i z ht hi hz ad m c news hl hnews hm (by unfold maxLen at h63;omega) (by simp only[Nat.zero_add]at hbytes;omega);rw[hr2]at hr;injection hr with e1 e2;subst e1 e2;intro g hg;simp only[Value.ownBlock,Option.some.injEq]at hg;subst hg;refine qDV (heap_alloc_new w.drew _) ?_;have:=hbig (grownCap w m 0 e-m);simpa using this
  ·by_cases hroom:n+m<=cap
   ·have hfit:n*i.size+news.length<=cur.size:=by rw[hl,hcs,<-Nat.add_mul];exact Nat.mul_le_mul_right _ hroom
    have hr2:=run_append_room (P:=Tryz.prog) w t o.type e i ht hi g n cap cur hg ad m c news hl hnews h1 hroom hfit;rw[hr2]at hr;injection hr with e1 e2;subst e1 e2;intro g' hg';simp only[Value.ownBlock,Option.some.injEq]at hg';subst hg';refine qDV (setRow_heap w g cur _ e _ hg) ?_;intro u hu;have hcu:=qIz hg (hown.2 g rfl);simp only[List.mem_toArray,List.mem_append]at hu;rcases hu with (hu|hu)|hu
    ·exact hcu u (Array.mem_toList_iff.1 (List.mem_of_mem_take hu))
    ·exact hnn u hu
    ·exact hcu u (Array.mem_toList_iff.1 (List.mem_of_mem_drop hu))
   ·have holds:∀j u,xs[j]? =some u->w.cell? ((⟨g,0,none⟩:Addr).add j)=some u:=hown.1.cells (g:=g) rfl
    have hr2:=run_append_grow (P:=Tryz.prog) w t o.type e i z ht hi hz ⟨g,0,none⟩ n cap xs hown.1.1 holds ad m c news hl hnews (by omega) (by unfold maxLen at h63;omega) (growslice_fits (by omega) hbytes);rw[hr2]at hr;injection hr with e1 e2;subst e1 e2;intro g' hg';simp only[Value.ownBlock,Option.some.injEq]at hg';subst hg';exact qDV (heap_alloc_new w.drew _) (hbig _)
 unfold Oper.wp execOp;simp only[ho,resolve,invoke,builtin,Sem.run_bind,Sem.run_pure,Result.andThen_ok,List.map_toArray,List.map_cons,List.map_nil,hs,hx,hr];exact h v' w' ⟨h2,hN⟩ hon
theorem qJu{ops:Array Oper}{rest:List Oper}{o:Oper}{a:Act}{w:World}{Q:Exit->Act->World->Prop}(hgd:o.guard=none)(s x:Operand)(t:TypeId)
 (ho:o.op=.call { callee:=.builtin .append,args:=#[s,x],argTypes:=#[t,t] })
 (base:Nat)(e:TypeId)(i:TypeInfo)(z:Value)(size bytes:Nat)(ht:Tryz.prog.underlying t=some (.slice e))(hi:Tryz.prog.info? e=some i)(hz:i.zero=some z)
 (hsize:i.size=size)(hby:i.bytes=bytes)(hzs:z.cells.size=size)(hsz:0<size)(hzn:∀u∈z.cells,noU u)
 (v:Value)(n:Nat)(xs:List Value)(hs:a.eval s=v)(hown:qCY w base e size v n xs)
 (ad:Addr)(m c:Nat)(news:List Value)(hx:a.eval x=.slice (some ad) m c)(hl:news.length=m*size)(hnews:∀j u,news[j]? =some u->w.cell? (ad.add j)=some u)(h1:∀u∈news,u.oneCell'=true)(hnn:∀u∈news,noU u)(hm:0<m)
 (h63:n+m<=maxLen)(hbytes:(n+m)*bytes<=140737488355328)(hbase:base<=w.heap.size)
 (h:∀v' w',qCY w' base e size v' (n+m) (xs++news)->qAc (fun b=>v.ownBlock=some b) w w'->wpList Tryz.prog ops Q rest (a.put o.dst v') w'):wpList Tryz.prog ops Q (o::rest) a w:= 
 wpList_plain hgd fun K hK=>qIx s x t ho base e i z size bytes ht hi hz hsize hby hzs hsz hzn v n xs hs hown ad m c news hx hl hnews h1 hnn hm h63 hbytes hbase (fun v' w' g1 g2=>hK _ _ (h v' w' g1 g2))
theorem qMt{ops:Array Oper}{o:Oper}{a:Act}{w:World}{K:Act->World->Prop}{Q:Exit->Act->World->Prop}{E:Prop}(hgd:o.guard=none)(d:Nat)(hd:o.dst=some d)(s x:Operand)(t:TypeId)
 (ho:o.op=.call { callee:=.builtin .append,args:=#[s,x],argTypes:=#[t,t] })
 (base:Nat)(e:TypeId)(i:TypeInfo)(z:Value)(size bytes:Nat)(ht:Tryz.prog.underlying t=some (.slice e))(hi:Tryz.prog.info? e=some i)(hz:i.zero=some z)
 (hsize:i.size=size)(hby:i.bytes=bytes)(hzs:z.cells.size=size)(hsz:0<size)(hzn:∀u∈z.cells,noU u)
 (v:Value)(n:Nat)(xs:List Value)(hs:a.eval s=v)(hown:qCY w base e size v n xs)
 (ad:Addr)(m c:Nat)(news:List Value)(hx:a.eval x=.slice (some ad) m c)(hl:news.length=m*size)(hnews:∀j u,news[j]? =some u->w.cell? (ad.add j)=some u)(h1:∀u∈news,u.oneCell'=true)(hnn:∀u∈news,noU u)(hm:0<m)
 (h63:n+m<=maxLen)(hbytes:(n+m)*bytes<=140737488355328)(hbase:base<=w.heap.size)
 (h:∀v' w',qCY w' base e size v' (n+m) (xs++news)->qAc (fun b=>v.ownBlock=some b) w w'->K ⟨a.tmps.setIfInBounds d v',a.defers⟩ w'):if Region.wanted o (yielded ops a.tmps)=true then Oper.wp Tryz.prog o a w K Q else E:=by
 rw[if_pos (by simp[Region.wanted,hgd])];exact qIx s x t ho base e i z size bytes ht hi hz hsize hby hzs hsz hzn v n xs hs hown ad m c news hx hl hnews h1 hnn hm h63 hbytes hbase (fun v' w' g1 g2=>by rw[hd];exact h v' w' g1 g2)
end Go.Proofs.YtkjhlkngihponaaGreatDoor
