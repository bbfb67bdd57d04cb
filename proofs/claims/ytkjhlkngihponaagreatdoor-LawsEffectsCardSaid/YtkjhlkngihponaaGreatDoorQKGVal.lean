/- catalog.Valid at a good catalog: every. -/
import Derived.Test.YtkjhlkngihponaaGreatDoorQKLHerm
import Derived.Test.YtkjhlkngihponaaGreatDoorQKLElP
import Derived.Test.YtkjhlkngihponaaGreatDoorQKWDivide
import Derived.Test.YtkjhlkngihponaaGreatDoorProg
import Derived.Test.YtkjhlkngihponaaGreatDoorQKStr
import Derived.WalkKit
import Derived.WalkSpells
import Derived.WalkLawsBesides
import Derived.Test.YtkjhlkngihponaaGreatDoorQKLSmall
import Derived.Deep.CutRange
import Derived.Laws.AppendOwnNone
import Derived.Test.YtkjhlkngihponaaGreatDoorQKLRow
set_option linter.unusedVariables false
set_option linter.unusedSimpArgs false
set_option maxHeartbeats 8000000
set_option maxRecDepth 100000
namespace Go.Proofs.YtkjhlkngihponaaGreatDoor
open Go.RowKit
def qQ9(w0:World)(m:List (List Int))(e:Ending)(w':World):Prop:=
 Below w0.heap.size w0 w'/\((qBv m≠0/\e=.returned (.tuple #[.slice none 0 0,.int .i64 (qBv m)]))\/(qBv m=0/\∃H:List (List Int),qBL m (H.map vec)/\(∀r∈H,r.length=m.length)/\H.length<=m.length/\qEr H e w'))
theorem qG0{n i:Nat}{r:List Int}:(qCo n r i).length=r.length+n:=by simp[qCo]
theorem qIJ{m:List (List Int)}{c:Nat}(hc:∀r∈m,r.length=c):∀r∈qAN m,r.length=c+m.length:=by
 intro r hr;obtain⟨i,hi,rfl⟩:=List.mem_iff_getElem.1 hr;rw[qAq]at hi;rw[qBj m i hi,qG0,hc _ (List.getElem_mem _)]
theorem qJU{m:List (List Int)}(h:Sml m):Sml (qAN m):=by
 refine⟨by rw[qAq];exact h.1,fun r hr x hx=> ?_⟩;obtain⟨i,hi,rfl⟩:=List.mem_iff_getElem.1 hr;rw[qAq]at hi;rw[qBj m i hi,qCo]at hx;have h1:(1:Nat)<=2^40:=Nat.pow_pos (by omega);rcases List.mem_append.1 hx with hx|hx
 ·exact h.2 _ (List.getElem_mem _) x hx
 ·rcases List.mem_or_eq_of_mem_set hx with hx|hx
  ·rw[(List.mem_replicate.1 hx).2];exact Nat.zero_le _
  ·rw[hx];exact h1
theorem qJT{row:List Int}{c r n j:Nat}(hc:row.length=c)(hn:n=c+r)(hj:j<r):(((row++List.replicate r 0).take c++(List.replicate n 0).drop c).set (c+j) 1)=qCo r row j:=by
 subst hc hn;have e1:(row++List.replicate r (0:Int)).take row.length=row:=by rw[List.take_left]
 have e2:(List.replicate (row.length+r) (0:Int)).drop row.length=List.replicate r 0:=by simp
 rw[e1,e2,List.set_append_right _ _ (by omega)];simp[qCo]
theorem qLL(w0:World)(v:Value)(m:List (List Int))(h:qA8 w0 v m):Calls Tryz.prog 38 #[v] w0 (qQ9 w0 m):=by
 have H:=hZ h;have HB:=hZ (Below.refl w0.heap.size w0);obtain⟨av,cv,rfl,q1,q2⟩:=h.form;clear h
 go_enter Tryz.func38,Tryz.ntmps38
 go_wp2_with fail
 refine(qN5 _ m w0 H.o).mono ?_;rintro e w1 ⟨rfl,hB⟩;replace HB:=bT HB hB;clear hB;by_cases hz:qBv m=0;rotate_left
 ·have s1:(qBv m != 0)=true:=by simpa using hz
  have s2:(qBv m==0)=false:=by simpa using hz
  have Hz:=hZ hz;clear hz;obtain⟨z,hz⟩:=eX (qBv m);have Hzz:=hZ hz;rw[hz]at s1 s2 ⊢;clear hz
  go_wp2_with fail
  exact bodyPost_ret (v:=.tuple #[.slice none 0 0,.int .i64 z]) (by simp[results,Tryz.results38,go_sem]) rfl ⟨HB.o,.inl ⟨Hz.o,by rw[Hzz.o]⟩⟩
 have Hc:=hZ (qGn.1 hz);have Hz:=hZ hz;have hrows:=Hc.o.rows;have hcols:=Hc.o.cols_;rw[hz];clear hz;by_cases hm0:m.length=0
 ·have s1:((m.length:Int)==0)=true:=by simp[hm0]
  have s2:(m.length==0)=true:=by simp[hm0]
  have Hm:Hid (m=[]):=hZ (List.eq_nil_of_length_eq_zero hm0);have HK:Hid (qBL m (([]:List (List Int)).map vec)):=hZ (by
   rw[Hm.o];refine⟨trivial,fun v=>⟨fun h=>⟨fun j _=>qDn h j,fun j=>rfl⟩,fun h=>qAa.zero.congr (fun j=>(h.1 j (Nat.zero_le _)).symm)⟩⟩)
  go_wp2_with fail
  exact bodyPost_ret (v:=.tuple #[.slice none 0 0,.int .i64 0]) (by simp[results,Tryz.results38,go_sem]) rfl ⟨HB.o,.inr ⟨Hz.o,[],HK.o,by simp,by simp,.inr ⟨_,rfl,qAb.nil _ _ (by omega),by simp⟩⟩⟩
 have s1:((m.length:Int)==0)=false:=by rw[beq_eq_false_iff_ne];omega
 have s2:(m.length==0)=false:=by rw[beq_eq_false_iff_ne];omega
 have hpos:0<m.length:=by omega
 have hpos1:(0:Int)<(m.length:Int):=by omega
 obtain⟨c,hc⟩:=eX (qBY m);rw[hc]at hcols;have Hn:Hid (∀r∈m,r.length=c):=hZ (by rw[<-hc];exact Hc.o.len);have Hs:Hid (∀r∈m,∀x∈r, -9223372036854775808<=x/\x<=9223372036854775807):=hZ (fun r hr x hx=>by have:=Hc.o.small r hr x hx;omega);clear hc;obtain⟨b0,cap0,a0,c0,hv0,hb0,n0, -, -,-⟩:=H.o.at_ 0 hpos;rw[Hn.o _ (List.getElem_mem hpos)]at n0;injection hv0 with f1 f2 f3;subst f1;clear f2 f3;replace n0:=(HB.o.cell (p:=⟨b0,0,none⟩) hb0).trans n0;obtain⟨n,hn⟩:=eX (c+m.length);have hn2:n<=1000:=by omega
 have HSz:=hZ HB.o.size
 go_wp2_with (at_make;refine qCV rfl rfl (m.length) rfl rfl rfl rfl (by omega) ?_)
 intro w2 h_9 hB hlt9;obtain⟨R,hb⟩:=eX w1.heap.size;rw[hb]at h_9 ⊢;have Ob':=hZ h_9;have hge_R:Hid (w1.heap.size<=R):=hZ (Nat.le_of_eq hb);have hlt_R:Hid (R<w2.heap.size):=hZ (by rw[<-hb];exact hlt9);clear h_9 hb hlt9;replace HB:=bT HB hB;clear hB;have Ob:=Ob';clear Ob';clear n0 s1 s2
 go_wp2_with fail
 have HgR:Hid (w0.heap.size<=R):=hZ (Nat.le_trans HSz.o hge_R.o);clear hge_R hlt_R
 go_loopw [28] (fun i wr=>∃(j:Nat) (l:List Rw),j<=m.length/\i=.int .i64 j/\Hid (l.length=j/\(∀k (h:k<l.length),R<l[k].1)/\∀k (h:k<l.length),l[k].2=n)/\Hid (qAf wr R 77 (rwZ n l (m.length-j)))/\Hid (qAB wr l n ((qAN m).take j))/\Hid (Below w0.heap.size w0 wr)) (fun i _=>m.length-(intOf i).toNat)
 case atStart=>exact⟨0,[],by omega,rfl,hZ ⟨rfl,fun k h=>by simp at h,fun k h=>by simp at h⟩,hZ (by simpa[rwZ]using Ob.o),hZ (qAB.nil _ _),HB⟩
 case round=>
  clear HB Ob;obtain⟨j,l,hj,rfl,HL,Ob,RI,HB⟩:=hrel;obtain⟨w2,rfl⟩:=eY wr;by_cases hlt:j<m.length
  ·skip
   obtain⟨b,cap,a,cx,hv,hb,n1,HI,g1,g2⟩:=H.o.at_ j hlt;injection hv with f1 f2 f3;injection f1 with f1;injection f1 with f1;subst f1;clear f2 f3;have HI:=hZ HI;have Hr:Hid (m[j].length=c):=hZ (Hn.o _ (List.getElem_mem hlt));have Hsr:Hid (∀x∈m[j], -9223372036854775808<=x/\x<=9223372036854775807):=hZ (Hs.o _ (List.getElem_mem hlt));have HM:Hid ((qAN m).take (j+1)=(qAN m).take j++[qCo m.length m[j] j]):=hZ (by rw[List.take_succ_eq_append_getElem (by rw[qAq];exact hlt),qBj m j hlt]);replace n1:=(HB.o.cell (p:=⟨b0,j,none⟩) hb).trans n1;generalize m[j]=r at *;have HI0:=hZ (And.intro HI.o g1);clear HI;rw[Hr.o]at n1 HI0;have i1:(0:Int)<=(j:Int):=by omega
   have i2:(j:Int)<(m.length:Int):=by omega
   obtain⟨HI1,g3⟩:=HI0.o;have HI:=hZ HI1;clear HI0 HI1 g1;have g1:=g3;clear g3
   go_wp2_with (at_make;refine qBp rfl rfl (n) rfl rfl (by omega) (by omega) (by omega) ?_)
   intro w3 h_9 hB hlt9;obtain⟨g,hb⟩:=eX w2.heap.size;rw[hb]at h_9 ⊢;have Rr':=hZ h_9;have hge_g:Hid (w2.heap.size<=g):=hZ (Nat.le_of_eq hb);have hlt_g:Hid (g<w3.heap.size):=hZ (by rw[<-hb];exact hlt9);have HLg:Hid ((∀k (h:k<l.length),l[k].1<g)/\R<g):=hZ ⟨fun k h=>by rw[<-hb];exact RI.o.lt k h,by rw[<-hb];exact Ob.o.lt⟩;clear h_9 hb hlt9;replace Ob:=Ob.b hB;replace RI:=RI.b hB;replace HB:=bT HB hB;clear hB;have Rr:=Rr';clear Rr';have HGG:Hid (w0.heap.size<=g):=hZ (by have:=HLg.o.2;have:=HgR.o;omega);clear hge_g hlt_g;have Hk:Hid (m.length-j=(m.length-(j+1))+1):=hZ (by omega);rw[Hk.o]at Ob;have e0:w3.cell? ⟨R,j,none⟩=some (.slice none 0 0):=(Ob.o.cell j).trans (by rw[<-HL.o.1];exact qFH);have e2:=Ob.o.frozen (j);obtain⟨w4,hw⟩:=eX (w3.setCell ⟨R,j,none⟩ (.slice (some ⟨g,0,none⟩) n n));have ho:qAc (fun b=>b=R) w3 w4:=by rw[<-hw];exact(qAc.refl (fun b=>b=R) _).set (p:=⟨R,j,none⟩) rfl _
   have hN:∀b,b=R->qAi w3 b:=fun b e=>e▸Ob.o.noInt qIl;replace Ob:=hZ ((by have h1:=Ob.o.set j (.slice (some ⟨g,0,none⟩) n n);rw[hw,qKB n HL.o.1]at h1;exact h1));replace RI:=hZ (RI.o.only ho hN (fun i hi=>by intro (e:_=R);have:=HL.o.2.1 i hi;omega));replace Rr:=hZ (Rr.o.only ho hN (by intro (e:_=R);have:=HLg.o.2;omega));replace HB:=hZ (qAY HB.o ho (fun b e=>by have:=HgR.o;omega) HB.o.size);clear ho hN
   go_wp2_with fail
   clear hw e0 e2;have HAl:Hid ((r++List.replicate m.length (0:Int)).length=(List.replicate n (0:Int)).length):=hZ (by have:=Hr.o;simp;omega)
   go_loopw [43] (fun i wr=>∃q:Nat,q<=c/\i=.int .i64 q/\Hid (qAf wr R 77 (rwZ n (l++[(g,n)]) (m.length-(j+1))))/\Hid (qAB wr l n ((qAN m).take j))/\Hid (qAC wr g ((r++List.replicate m.length 0).take q++(List.replicate n 0).drop q))/\Hid (Below w0.heap.size w0 wr)) (fun i _=>c-(intOf i).toNat)
   case atStart=>exact⟨0,by omega,rfl,Ob,RI,hZ (by simpa using Rr.o),HB⟩
   case round=>
    clear Ob RI Rr HB;obtain⟨q,hq,rfl,Ob,RI,Rr,HB⟩:=hrel;obtain⟨w4,rfl⟩:=eY wr;by_cases hql:q<c
    ·skip
     have i3:(0:Int)<=(q:Int):=by omega
     have i4:(q:Int)<(c:Int):=by omega
     have i5:(q:Int)<(n:Int):=by omega
     have Hqr:Hid (q<r.length):=hZ (by have:=Hr.o;omega);obtain⟨b2,cap2,hv,hb2,n2⟩:=(qAg.below HI.o HB.o).at_ q Hqr.o;rw[Hr.o]at hv;injection hv with f1 f2 f3;subst f1;clear f2 f3;have Hz2:Hid (-9223372036854775808<=r[q]'Hqr.o/\r[q]'Hqr.o<=9223372036854775807):=hZ (Hsr.o _ (List.getElem_mem _));obtain⟨z,hz⟩:=eX (r[q]'Hqr.o);have HZ:=hZ hz;rw[hz]at Hz2 n2;clear hz
     go_wp2_with fail
     clear n2;obtain⟨w5,hwd⟩:=eX w4.drew;have hB:=dB hwd;replace Ob:=Ob.b hB;replace RI:=RI.b hB;replace Rr:=Rr.b hB;replace HB:=bT HB hB;clear hB;have HBr:Hid (qAc (fun b=>False) w5 w5):=hZ (qAc.refl _ _);refine qAU [8] (fun w'=>qAc (fun b=>False) w5 w') (by kernel_rfl) (by rw[hwd];exact qAc.refl _ _) (fun hHeld=> ?_);rw[hwd]at hHeld ⊢;clear hwd;have e0:w5.cell? ⟨R,j,none⟩=some (.slice (some ⟨g,0,none⟩) n n):=(Ob.o.cell j).trans (by have h1:=HL.o.1;subst h1;rw[qMB (by simp)];simp);refine pU 0 48 ?_;refine pU 1 49 ?_;refine pU 2 50 ?_;refine tU 3 51 (cF e0 Ob.o.lt) ?_;refine pU 4 52 ?_;refine pU 5 53 ?_;refine eU 6 fun K hK=> ?_;go_simp;refine(qIR (w:=w5) z Hz2.o.1 Hz2.o.2).mono ?_;rintro e w6 ⟨s_z,a_z,n_z,c_z,rfl,h_z,hB⟩;have Vz:=hZ h_z;replace HBr:=oT HBr hB;replace Ob:=Ob.b hB;replace RI:=RI.b hB;replace Rr:=Rr.b hB;replace HB:=bT HB hB;clear hB;clear h_z;refine hK.out _ _ HBr.o (fun hHeld=> ?_);clear hK K
     try simp only[Act.put,sX1,sX2,sX3]
     refine pU 7 55 ?_;obtain⟨s_9,a_9,n_9,c_9,e0,e1,-⟩:=Rr.o.get (q) (by rw[qC8 HAl.o (by simp;omega)];simp;omega);have e2:=Rr.o.frozen (q*2);have e3:=Rr.o.frozen (q*2+1);have hn9:qAi w6 (g):=Rr.o.noInt;obtain⟨w7,hw⟩:=eX ((w6.setCell ⟨g,q*2,none⟩ (.bool s_z)).setCell ⟨g,q*2+1,none⟩ (.slice a_z n_z c_z));have hw2:st2 w6 (g) (q*2) (q*2+1) s_z a_z n_z c_z=w7:=hw;replace Rr:=hZ (qAC.put' Rr.o (q) (by rw[qC8 HAl.o (by simp;omega)];simp;omega) Vz.o);rw[hw2]at Rr;replace Ob:=hZ (Ob.o.offe hw2 (by have:=HLg.o.2;omega));replace RI:=hZ (qAB.off (g:=g) (o1:=q*2) (o2:=q*2+1) (s:=s_z) (a:=a_z) (n':=n_z) (c:=c_z) RI.o hn9 (fun i hi=>by have:=HLg.o.1 i hi;omega));rw[hw2]at RI;replace Vz:=hZ (Vz.o.offe hw2 hn9);replace HB:=hZ (bO hw2 HB.o HGG.o);clear hw2 hn9;refine lU 8 fun K hK=> ?_;go_simp
     try rw[hw]
     refine hK.out _ _ ?_;clear hK K
     try simp only[Act.put,sX1,sX2,sX3]
     clear hw e0 e1 e2 e3;refine dU ?_;clear hHeld;clear e0
     go_wp2_with fail
     have hAq:(r++List.replicate m.length (0:Int))[q]'(by have:=Hqr.o;simp;omega)=z:=by rw[List.getElem_append_left Hqr.o,HZ.o]
     replace Rr:Hid (qAC w7 g ((r++List.replicate m.length 0).take (q+1)++(List.replicate n 0).drop (q+1))):=hZ (by have h1:=Rr.o;rw[<-hAq,qCW HAl.o (by simp;omega)]at h1;exact h1);go_roundw
     case rel=>exact⟨q+1,by omega,by go_num,Ob,RI,Rr,HB⟩
     case measure=>simp[intOf];omega
    ·skip
     obtain rfl:q=c:=by omega
     obtain⟨s,hs⟩:=eX (q+j);have hwr:IntKind.i64.wrap ((q:Int)+(j:Int))=(s:Int):=by rw[IntWalk.i64_in _ (by omega)];omega
     have j1:(0:Int)<=(s:Int):=by omega
     have j2:(s:Int)<(n:Int):=by omega
     go_wp2_with fail
     obtain⟨w5,hwd⟩:=eX w4.drew;have hB:=dB hwd;replace Ob:=Ob.b hB;replace RI:=RI.b hB;replace Rr:=Rr.b hB;replace HB:=bT HB hB;clear hB;have HBr:Hid (qAc (fun b=>False) w5 w5):=hZ (qAc.refl _ _);refine qAU [9] (fun w'=>qAc (fun b=>False) w5 w') (by kernel_rfl) (by rw[hwd];exact qAc.refl _ _) (fun hHeld=> ?_);rw[hwd]at hHeld ⊢;clear hwd;have e0:w5.cell? ⟨R,j,none⟩=some (.slice (some ⟨g,0,none⟩) n n):=(Ob.o.cell j).trans (by have h1:=HL.o.1;subst h1;rw[qMB (by simp)];simp);refine pU 0 57 ?_;refine pU 1 58 ?_;refine pU 2 59 ?_;refine tU 3 60 (cF e0 Ob.o.lt) ?_;refine pU 4 61 ?_;refine pU 5 62 ?_;refine pU 6 63 ?_;refine eU 7 fun K hK=> ?_;go_simp;refine(qIR (w:=w5) 1 (by omega) (by omega)).mono ?_;rintro e w6 ⟨s_z,a_z,n_z,c_z,rfl,h_z,hB⟩;have Vz:=hZ h_z;replace HBr:=oT HBr hB;replace Ob:=Ob.b hB;replace RI:=RI.b hB;replace Rr:=Rr.b hB;replace HB:=bT HB hB;clear hB;clear h_z;refine hK.out _ _ HBr.o (fun hHeld=> ?_);clear hK K
     try simp only[Act.put,sX1,sX2,sX3]
     refine pU 8 65 ?_;obtain⟨s_9,a_9,n_9,c_9,e0,e1,-⟩:=Rr.o.get (s) (by rw[qC8 HAl.o (by simp;omega)];simp;omega);have e2:=Rr.o.frozen (s*2);have e3:=Rr.o.frozen (s*2+1);have hn9:qAi w6 (g):=Rr.o.noInt;obtain⟨w7,hw⟩:=eX ((w6.setCell ⟨g,s*2,none⟩ (.bool s_z)).setCell ⟨g,s*2+1,none⟩ (.slice a_z n_z c_z));have hw2:st2 w6 (g) (s*2) (s*2+1) s_z a_z n_z c_z=w7:=hw;replace Rr:=hZ (qAC.put' Rr.o (s) (by rw[qC8 HAl.o (by simp;omega)];simp;omega) Vz.o);rw[hw2]at Rr;replace Ob:=hZ (Ob.o.offe hw2 (by have:=HLg.o.2;omega));replace RI:=hZ (qAB.off (g:=g) (o1:=s*2) (o2:=s*2+1) (s:=s_z) (a:=a_z) (n':=n_z) (c:=c_z) RI.o hn9 (fun i hi=>by have:=HLg.o.1 i hi;omega));rw[hw2]at RI;replace Vz:=hZ (Vz.o.offe hw2 hn9);replace HB:=hZ (bO hw2 HB.o HGG.o);clear hw2 hn9;refine lU 9 fun K hK=> ?_;go_simp
     try rw[hw]
     refine hK.out _ _ ?_;clear hK K
     try simp only[Act.put,sX1,sX2,sX3]
     clear hw e0 e1 e2 e3;refine dU ?_;clear hHeld;clear e0
     go_wp2_with fail
     go_roundw
     case rel=>
      have hR:=Rr.o;rw[<-hs,qJT Hr.o hn.symm hlt]at hR;exact⟨j+1,l++[(g,n)],by omega,by go_num,hZ ⟨by have:=HL.o.1;simp;omega,qDo (P:=fun(x:Rw)=>R<x.1) HL.o.2.1 HLg.o.2,qDo (P:=fun(x:Rw)=>x.2=n) HL.o.2.2 rfl⟩,Ob,hZ (by rw[HM.o];exact RI.o.snoc hR (by rw[qG0,Hr.o];exact hn) (fun i hi=>by have:=HLg.o.1 i hi;omega) (Nat.le_refl _) (by omega)),HB⟩
     case measure=>simp[intOf];omega
  ·skip
   obtain rfl:j=m.length:=by omega
   have h1:=Ob.o;rw[Nat.sub_self]at h1;have h2:=RI.o;rw[List.take_of_length_le (by rw[qAq];exact Nat.le_refl _)]at h2;have h3:qCX w2 R l n (qAN m):=⟨by simpa[rwZ]using h1,h2,fun i hi=>by have:=HL.o.2.1 i hi;omega⟩;have h4:=h3.mat (c:=m.length) (by have:=HL.o.1;omega) (by omega);rw[HL.o.1]at h4;have HN:=hZ (qLA w2 _ (qAN m) n c h4 (by rw[qAq];exact hpos) (by rw[<-hn];exact qIJ Hn.o) (by omega) hn2 (by omega) (qJU Hc.o.sml));clear h1 h2 h3 h4
   go_wp2_with fail
   refine HN.o.mono ?_;rintro e w3 hP;obtain⟨vr,Hm,rfl,hB,k1,k2,k3,k4⟩:=hP.small (by rw[qAq];omega) hn2;have K1:=hZ k1;have K2:=hZ k2;have K3:=hZ (qOV Hn.o k3);have HS:=hZ k4;rw[qAq]at K2;clear HN hP k1 k2 k3 k4;have Hnc:Hid (n-c=m.length):=hZ (by omega);rw[Hnc.o]at K1;replace Ob:=Ob.b hB;replace RI:=RI.b hB;replace HB:=bT HB hB;clear hB
   go_wp2_with fail
   refine HS.o.mono ?_;rintro e w4 ⟨hB,⟨rfl,k5⟩|⟨u,rfl,k5,k6⟩⟩
   ·skip
    have K5:=hZ k5;clear k5;replace HB:=bT HB hB;clear hB
    go_wp2_with fail
    exact bodyPost_ret (v:=.tuple #[.slice none 0 0,.int .i64 4]) (by simp[results,Tryz.results38,go_sem]) rfl ⟨HB.o,.inr ⟨Hz.o,Hm,K3.o,K1.o,K2.o,.inl ⟨rfl,K5.o⟩⟩⟩
   ·skip
    have K5:=hZ k5;have K6:=hZ k6;clear k5 k6;replace HB:=bT HB hB;clear hB
    go_wp2_with fail
    exact bodyPost_ret (v:=.tuple #[u,.int .i64 0]) (by simp[results,Tryz.results38,go_sem]) rfl ⟨HB.o,.inr ⟨Hz.o,Hm,K3.o,K1.o,K2.o,.inr ⟨u,rfl,K5.o,K6.o⟩⟩⟩
def pv(r:List Int):Nat:=r.findIdx (fun x=> !decide (x=0))
theorem qSa(r:List Int):pv r<=r.length:=List.findIdx_le_length
theorem qMN{r:List Int}{c:Nat}(h:c<pv r):vec r c=0:=by
 have h1:=List.not_of_lt_findIdx h;have h2:=qSa r;rw[qAp (by omega)];simpa using h1
theorem qQb{r:List Int}(h:pv r<r.length):vec r (pv r)≠0:=by
 have:=List.findIdx_getElem (w:=h);rw[qAp h];have h2:(!decide (r[pv r]=0))=true:=this;simpa using h2
theorem qSb{r:List Int}{q:Nat}(h:∀c,c<q->vec r c=0)(hq:q<r.length)(hz:vec r q≠0):pv r=q:=by
 rcases Nat.lt_trichotomy (pv r) q with h1|h1|h1
 ·exact absurd (h _ h1) (qQb (by omega))
 ·exact h1
 ·exact absurd (qMN h1) hz
def qSt(b:List (List Int))(n i:Nat):Prop:=∀h:i<b.length,b[i].length=n/\pv b[i]<n/\0<=vec b[i] (pv b[i])/\(∀k (hk:k<i),pv (b[k]'(by omega))<pv b[i])/\∀k (hk:k<i),0<=vec (b[k]'(by omega)) (pv b[i])/\vec (b[k]'(by omega)) (pv b[i])<vec b[i] (pv b[i])
def IsN(b:List (List Int))(n:Nat):Prop:=∀i,i<b.length->qSt b n i
theorem IsN.row{b:List (List Int)}{n:Nat}(h:IsN b n)(i:Nat)(hi:i<b.length):b[i].length=n/\pv b[i]<n/\0<vec b[i] (pv b[i]):=by
 obtain⟨h1,h2,h3, -,-⟩:=h i hi hi;have:=qQb (r:=b[i]) (by omega);exact⟨h1,h2,by omega⟩
theorem IsN.piv{b:List (List Int)}{n:Nat}(h:IsN b n)(i:Nat)(hi:i<b.length):qC2 (vec b[i]) (pv b[i]):=
 ⟨fun j hj=>qMN hj,qQb (by have:=h.row i hi;omega)⟩
theorem IsN.nrm_{b:List (List Int)}{n:Nat}(h:IsN b n):∀(k i lo:Nat),i+k=b.length->(∀hi:i<b.length,lo<=pv b[i])->Nrm lo ((b.drop i).map vec)
 |0,i,lo,hk,_=>by rw[List.drop_eq_nil_of_le (by omega)];trivial
 |k+1,i,lo,hk,hlo=>by
  have hi:i<b.length:=by omega
  rw[List.drop_eq_getElem_cons hi,List.map_cons];refine⟨pv b[i],hlo hi,h.piv i hi,(h.row i hi).2.2,h.nrm_ k (i+1) _ (by omega) (fun hi2=>(h (i+1) hi2 hi2).2.2.2.1 i (by omega)),fun s hs e hp=> ?_⟩;obtain⟨r,hr,rfl⟩:=List.mem_map.1 hs;obtain⟨t,ht,rfl⟩:=List.mem_iff_getElem.1 hr;rw[List.length_drop]at ht;rw[List.getElem_drop]at hp ⊢;obtain rfl:=hp.uniq (h.piv (i+1+t) (by omega));exact(h (i+1+t) (by omega) (by omega)).2.2.2.2 i (by omega)
theorem IsN.nrm{b:List (List Int)}{n:Nat}(h:IsN b n):Nrm 0 (b.map vec):=by simpa using h.nrm_ b.length 0 0 (by omega) (fun _=>Nat.zero_le _)
def InB(b:List (List Int))(v:List Int):Prop:=b.length<=64/\v.length<=128/\IsN b v.length/\qAa (b.map vec) (vec v)
theorem qAg.blw{w w':World}{v:Value}{l:List Int}(h:qAg w v l)(hb:Below w.heap.size w w'):qAg w' v l:=h.below hb
instance {w w':World} {v:Value} {l:List Int}:Mv w w' (qAg w v l) (qAg w' v l):=⟨fun hb h=>qAg.blw h hb⟩
theorem qFU{n:Nat}:∀{A B:List (List Int)},(∀r∈A,r.length=n)->(∀r∈B,r.length=n)->A.map vec=B.map vec->A=B
 |[],[],_,_,_=>rfl
 |[],b::B,_,_,h=>by simp at h
 |a::A,[],_,_,h=>by simp at h
 |a::A,b::B,h1,h2,h=>by
  simp only[List.map_cons,List.cons.injEq]at h;rw[qPV (l:=a) (l':=b) (by rw[h1 a (by simp),h2 b (by simp)]) (fun j=>by rw[h.1]),qFU (fun r hr=>h1 r (by simp[hr])) (fun r hr=>h2 r (by simp[hr])) h.2]
theorem qA8.blw{w w':World}{v:Value}{m:List (List Int)}(h:qA8 w v m)(hb:Below w.heap.size w w'):qA8 w' v m:=h.below hb
instance {w w':World} {v:Value} {m:List (List Int)}:Mv w w' (qA8 w v m) (qA8 w' v m):=⟨fun hb h=>qA8.blw h hb⟩
theorem qEr.fit{H:List (List Int)}{e:Ending}{w':World}(h:qEr H e w')(hf:∀r∈H,∀x∈r,qH4 x):∃u,e=.returned (.tuple #[u,.int .i64 0])/\qA8 w' u H:=by
 rcases h with ⟨-,r,hr,x,hx,hn⟩|⟨u,h1,h2,-⟩
 ·exact absurd (hf r hr x hx) hn
 ·exact⟨u,h1,h2⟩
theorem qAg.lit{w:World}{g n:Nat}{l:List Int}(h:qAf w g 3 (l.map zv))(hl:l.length=n)(hn:n<=1000):qAg w (.slice (some ⟨g,0,none⟩) n n) l:=by
 subst hl;exact qCg h (Nat.le_refl _) (by omega)
def qEq(n m:Int):Int:=if n<0 then (-(n+1))%m else n%m
theorem qJh(n m:Int)(hm:1<=m):0<=qEq n m/\qEq n m<m:=by
 unfold qEq
 split
 ·exact⟨Int.emod_nonneg _ (by omega),Int.emod_lt_of_pos _ (by omega)⟩
 ·exact⟨Int.emod_nonneg _ (by omega),Int.emod_lt_of_pos _ (by omega)⟩
theorem qOc(n m:Int)(hn:n<0)(_hm:1<=m):(-(n+1)).tmod m=qEq n m:=by
 unfold qEq;rw[if_pos hn,Int.tmod_eq_emod_of_nonneg (by omega)]
theorem qAI{k:IntKind}{a b:Int}(h:a=b):Ending.returned (.int k a)=.returned (.int k b):=by rw[h]
theorem qL4(n m:Int)(w:World)(hn: -9223372036854775808<=n)(hn':n<=9223372036854775807)(hm:1<=m)(hm':m<=9223372036854775807):
 Calls Tryz.prog 23 #[.int .i64 n,.int .i64 m] w fun e w'=>e=.returned (.int .i64 (qEq n m))/\w=w':=by
 by_cases h:n<0
 ·have h2:=hZ (qOc n m h hm)
  go_enter Tryz.func23,Tryz.ntmps23
  go_wp2
  go_ret;exact⟨qAI (by rw[<-h2.o,Int.neg_tmod]),rfl⟩
 ·go_enter Tryz.func23,Tryz.ntmps23
  go_wp2
  go_ret;exact⟨qAI (by rw[qEq,if_neg (by omega)]),rfl⟩
def qBW(w:World)(v:Value)(zs:List Int)(len:Nat):Prop:=
 (∃a cap,v=.slice a 0 cap/\len=0/\cap<=9223372036854775807)\/ ∃b off cap,v=.slice (some ⟨b,off,none⟩) len cap/\b<w.heap.size/\len<=cap/\cap<=9223372036854775807/\(∀j,j<len->w.cell? ⟨b,off+j,none⟩=some (.int .i64 (zs[j]?.getD 0)))/\(∀j,j<len-> -9223372036854775808<=zs[j]?.getD 0/\zs[j]?.getD 0<=9223372036854775807)
theorem qBW.below{w w':World}{v:Value}{zs:List Int}{len:Nat}(h:qBW w v zs len){B:Nat}(hB:w.heap.size<=B)(hb:Below B w w'):qBW w' v zs len:=by
 rcases h with h|⟨b,off,cap,hv,hlt,h1,h2,hc,hr⟩
 ·exact .inl h
 ·exact .inr ⟨b,off,cap,hv,Nat.lt_of_lt_of_le hlt hb.size,h1,h2,fun j hj=>(hb.cell (p:=⟨b,off+j,none⟩) (Nat.lt_of_lt_of_le hlt hB)).trans (hc j hj),hr⟩
def qDI(zs:List Int)(len i:Nat)(m:Int):Int:=if i<len then qEq (zs[i]?.getD 0) m else 0
theorem qCe(zs:List Int)(len i:Nat)(m:Int)(hm:0<m):0<=qDI zs len i m/\qDI zs len i m<m:=by
 unfold qDI;by_cases h:i<len
 ·rw[if_pos h];exact qJh _ _ hm
 ·rw[if_neg h];omega
theorem qDs(v:Value)(zs:List Int)(len i:Nat)(m:Int)(w:World)(h:qBW w v zs len)(hi:i<=4611686018427387904)(hm0:0<m)(hm1:m<=4611686018427387904):
 Calls Tryz.prog 29 #[v,.int .i64 i,.int .i64 m] w fun e w'=>e=.returned (.int .i64 (qDI zs len i m))/\w'=w:=by
 rcases h with ⟨a,cap,rfl,rfl,hcap⟩|⟨b,off,cap,rfl,hlt,h1,h2,hc,hr⟩
 ·have hp:Hid (qDI zs 0 i m=0):=hZ (by unfold qDI;rw[if_neg (by omega)])
  go_enter Tryz.func29,Tryz.ntmps29
  go_wp2
  go_ret;exact⟨by rw[hp.o];rfl,rfl⟩
 ·by_cases hil:i<len
  ·have hp:Hid (qDI zs len i m=qEq (zs[i]?.getD 0) m):=hZ (by unfold qDI;rw[if_pos hil])
   have hcell:=hc i hil;have hri:=hr i hil;clear hc hr;generalize zs[i]?.getD 0=z at *
   go_enter Tryz.func29,Tryz.ntmps29
   go_wp2_with (go_at_call 23;refine(qL4 z m w hri.1 hri.2 (by omega) (by omega)).mono ?_;rintro e w' ⟨rfl,rfl⟩)
   go_ret;exact⟨by rw[hp.o];rfl,rfl⟩
  ·have hp:Hid (qDI zs len i m=0):=hZ (by unfold qDI;rw[if_neg hil])
   clear hc hr
   go_enter Tryz.func29,Tryz.ntmps29
   go_wp2
   go_ret;exact⟨by rw[hp.o];rfl,rfl⟩
theorem qQR(d:Nat)(h:d<10):(⟨#[48,49,50,51,52,53,54,55,56,57]⟩:ByteArray).extract d (d+1)=⟨[dch d].toArray⟩:=by
 match d,h with
 |0,_=>rfl
 |1,_=>rfl
 |2,_=>rfl
 |3,_=>rfl
 |4,_=>rfl
 |5,_=>rfl
 |6,_=>rfl
 |7,_=>rfl
 |8,_=>rfl
 |9,_=>rfl
 |d+10,h=>omega
def ldV:Value->Nat
 |.int _ i=>i.natAbs
 |_=>0
theorem qRU:(⟨#[45]⟩:ByteArray)=⟨([45]:Tx).toArray⟩:=rfl
theorem qKc(n:Nat)(w:World)(h0:0<n)(h:n<=9223372036854775807):
 Calls Tryz.prog 36 #[.int .i64 (n:Int)] w fun e w'=>e=.returned (sv (dec n))/\w'=w:=by
 have hne:((n:Int)==0)=false:=by simp;omega
 have hnn:¬((n:Int)<0):=by omega
 have Hdec:Hid (dec n=qLY n):=hZ (by unfold dec;rw[if_neg (by omega)]);have Hlen:=hZ (qHx 19 n (by omega)).2
 go_enter Tryz.func36,Tryz.ntmps36
 go_wp2_with fail
 go_loop [4,5] (fun sv5 kv=>∃(t:Tx) (r:Nat),r<=n/\kv=.int .i64 ((r:Int))/\sv5=.string ⟨t.toArray⟩/\Hid (qLY r++t=qLY n)) (fun _ kv=>ldV kv)
 case atStart=>exact⟨[],n,Nat.le_refl _,rfl,rfl,hZ (by simp)⟩
 case round=>
  obtain⟨t,r,hr,rfl,rfl,ht⟩:=hrel;have htl:t.length<=19:=by
   have h5:=congrArg List.length ht.o;rw[List.length_append]at h5;have:=Hlen.o;omega
  by_cases h1:r=0
  ·subst h1
   go_wp2
   go_ret;refine⟨?_,rfl⟩;rw[Hdec.o,<-ht.o]
   first|rfl|(rw[qRU,qOb];rfl)
  ·have Hst:=hZ (qEn r h1)
   obtain⟨k,hk⟩:=eX (r%10);obtain⟨q,hq⟩:=eX (r/10);have hk10:k<10:=by omega
   have hqr:q<r:=by omega
   have hrn:(((r:Int))==0)=false:=by simp;omega
   have hkI:(r:Int)%10=(k:Int):=by omega
   have hqI:(r:Int)/10=(q:Int):=by omega
   rw[hk,hq]at Hst;have Hsub:=hZ (qQR k hk10);have hk11:¬((k:Int)<0):=by omega
   clear hk hq h1
   go_wp2_with fail
   go_round
   case rel=>
    refine⟨[dch k]++t,q,by omega,rfl,?_,hZ (by rw[<-ht.o,Hst.o,List.append_assoc])⟩;rw[Hsub.o,qOb]
   case measure=>simp[ldV];omega
theorem qI2(w:World):Calls Tryz.prog 36 #[.int .i64 0] w fun e w'=>e=.returned (sv (dec 0))/\w'=w:=by
 go_enter Tryz.func36,Tryz.ntmps36
 go_wp2
 go_ret;exact⟨rfl,rfl⟩
theorem qKd(n:Nat)(w:World)(h:n<=9223372036854775807):
 Calls Tryz.prog 36 #[.int .i64 (n:Int)] w fun e w'=>e=.returned (sv (dec n))/\w'=w:=by
 rcases Nat.eq_zero_or_pos n with h0|h0
 ·subst h0;exact qI2 w
 ·exact qKc n w h0 h
theorem qRJ:qEv Tryz.prog 30 22 1 24:=qEv.mk (z:=.slice none 0 0) Tryz.underlying30 (by kernel_rfl) rfl (by decide)
theorem qA8.of_own{w:World}{base:Nat}{v:Value}{l:List (Nat×Nat)}{M:List (List Int)}(h:w.ownsRow base 22 1 v l.length (l.map rwI))(hr:qBm w l M)(hc:∀r∈M,r.length<=9223372036854775807):qA8 w v M:=by
 refine qAb.of_own (css:=l.map (fun x=>[rwI x])) (base:=base) (e:=22) (by rw[qBf,List.length_map];exact h) (fun cs h=>by obtain⟨x,_,rfl⟩:=List.mem_map.1 h;rfl) (by rw[List.length_map];exact hr.len.symm) (fun j h1 h2=> ?_);have h3:j<l.length:=by rw[<-hr.len];exact h1
 obtain⟨k1,k2⟩:=hr.row j h3;rw[List.getElem_map];refine⟨_,rfl,?_⟩;have:=qCg k1 (Nat.le_refl _) (hc _ (List.getElem_mem _));rw[k2]at this;exact this
theorem qJB{P:Program}{w:World}{base t ty e:Nat}{i:TypeInfo}{size:Nat}(ht:P.underlying t=some (.slice e))(hi:P.info? e=some i){v:Value}{n:Nat}{xs:List Value}(hown:w.ownsRow base e size v n xs)(c:Nat):
 (Builtin.append_ #[t,t] ty #[v,.slice none 0 c]).run P w=.ok v w:=by
 obtain⟨hl,h⟩:=hown;rcases h with ⟨rfl,rfl⟩|⟨g,cap,cur,rfl,_,_,hnc,_⟩
 ·simp[Builtin.append_,run_underlying ht,sizeOf,typeInfo,hi,Builtin.lenOf,Builtin.firstCells]
 ·simp[Builtin.append_,run_underlying ht,sizeOf,typeInfo,hi,Builtin.lenOf,Builtin.firstCells,hnc,storeCells]
theorem qFu{P:Program}{W0 w:World}{ops:Array Oper}{rest:List Oper}{o:Oper}{a:Act}{Q:Exit->Act->World->Prop}{B bytes:Nat}{t e:TypeId}(hE:qEv P t e 1 bytes)(hgd:o.guard=none)(s x:Operand)
 (ho:o.op=.call { callee:=.builtin .append,args:=#[s,x],argTypes:=#[t,t] })
 (v u:Value)(n:Nat)(xs:List Value)(l:List Int)(hs:a.eval s=v)(hx:a.eval x=u)(hl:qAg w u l)
 (hown:w.ownsRow B e 1 v n xs)(hB:Below B W0 w)(hle:B<=w.heap.size)(hn:n+l.length<=1000000000)(hby:bytes<=1000)
 (h:∀v' w',Hid (w'.ownsRow B e 1 v' (n+l.length) (xs++l.map zv))->Hid (Below B W0 w')->Hid (qAc (fun b=>v.ownBlock=some b) w w')->wpList P ops Q rest (a.put o.dst v') w'):wpList P ops Q (o::rest) a w:=by
 obtain⟨ad,cap,rfl,h1,h2,hc⟩:=hl;rcases Nat.eq_zero_or_pos l.length with h0|h0
 ·obtain rfl:=List.eq_nil_of_length_eq_zero h0
  cases ad with
  |none=>
   obtain⟨ht,i,z,hi,hz,hsize,hbyt,hzs,hk⟩:=hE;refine wpList_plain hgd fun K hK=> ?_;have hrun:=qJB (P:=P) (w:=w) (base:=B) (t:=t) (ty:=o.type) ht hi hown cap;unfold Oper.wp;simp[execOp,ho,resolve,invoke,builtin,hs,hx,hrun,Result.andThen];exact hK _ _ (h v w (hZ (by simpa using hown)) (hZ hB) (hZ (qAc.refl _ _)))
  |some ad=>
   exact qFt (W0:=W0) (B:=B) hE hgd s x ho v n xs hs ad 0 cap [] (by rw[hx];rfl) rfl (fun j u hu=>by simp at hu) (by simp) hown hB hle hn hby h
 ·obtain⟨b,rfl,hlt,hcc⟩:=hc h0
  refine qFt (W0:=W0) (B:=B) hE hgd s x ho v n xs hs ⟨b,0,none⟩ l.length cap (l.map zv) hx (by simp) (fun j u hu=> ?_) ?_ hown hB hle hn hby h
  ·have hj:j<l.length:=by
    rcases Nat.lt_or_ge j l.length with h3|h3
    ·exact h3
    ·rw[List.getElem?_eq_none (by simpa using h3)]at hu;cases hu
   obtain⟨cs,rfl,_,hcl⟩:=hcc j hj;have hadd:(⟨b,0,none⟩:Addr).add j=⟨b,j,none⟩:=by unfold Addr.add;split<;>simp_all
   have:=hcl 0 (by omega);rw[Nat.mul_one,Nat.add_zero]at this;rw[hadd,this];simpa[hj]using hu
  ·intro u hu
   obtain⟨y,_,rfl⟩:=List.mem_map.1 hu;rfl
theorem qKI(w:World)(e:TypeId)(cs:List Value)(hm:cs.length<=1000000000):(w.alloc (.cells cs.toArray e)).ownsRow w.heap.size e 1 (.slice (some ⟨w.heap.size,0,none⟩) cs.length cs.length) cs.length cs:=
 ⟨by simp,.inr ⟨w.heap.size,cs.length,cs.toArray,rfl,Nat.le_refl _,heap_alloc_new w _,Nat.le_refl _,by unfold maxLen;omega,by simp,by simp⟩⟩
theorem qFB{w:World}{base t g n cap:Nat}{xs:List Value}(h:w.ownsRow base t 1 (.slice (some ⟨g,0,none⟩) n cap) n xs):∃tl,qAf w g t (xs++tl):=by
 obtain⟨hl,ho⟩:=h;rcases ho with ⟨hv,_⟩|⟨g',cap',cur,hv,hb,hh,hn,hm,hs,ht⟩
 ·cases hv
 ·injection hv with e1 e2 e3
  injection e1 with e1;injection e1 with e1;subst e1;refine⟨cur.toList.drop (n*1),?_⟩;rw[<-ht,List.take_append_drop];exact hh
theorem qQL{M:List (List Int)}{a b:Nat}(ha:a<M.length)(hb:b<M.length)(j:Nat):ent (qAH M a b ha hb) a j=ent M b j:=by
 have h1:a<(qAH M a b ha hb).length:=by rw[qAe];exact ha
 unfold ent;rw[List.getElem?_eq_getElem h1,List.getElem?_eq_getElem hb,qAx a ha];by_cases e:a=b
 ·subst e;simp
 ·rw[if_neg e,if_pos rfl]
theorem qG6{M0:List (List Int)}{c:Nat}(hc:∀r∈M0,r.length=c):∀col,∃M ps d,qBi M0 M ps d col/\∀r∈M,r.length=c
 |0=>⟨M0,[],1,qBi.start M0,hc⟩
 |n+1=>by
  obtain⟨M,ps,d,h,hr⟩:=qG6 hc n;by_cases hz:∃i,ps.length<=i/\i<M.length/\ent M i n≠0
  ·obtain⟨i,hp,hi,hne⟩:=hz
   have hk:ps.length<M.length:=by omega
   have hs:=h.swap ps.length i hk hi (Nat.le_refl _) hp;have hk2:ps.length<(qAH M ps.length i hk hi).length:=by rw[qAe];exact hk
   have hr2:∀r∈qAH M ps.length i hk hi,r.length=c:=fun r hr'=>hr r (qFC r hr');refine⟨_,_,_,hs.step hr2 hk2 (by rw[qQL];exact hne),fun r hr'=> ?_⟩;obtain⟨t,ht,rfl⟩:=List.mem_iff_getElem.1 hr';rw[qBx]at ht;rw[qCm ht hk2]
   split
   ·exact hr2 _ (List.getElem_mem _)
   ·exact qHA (hr2 _ (List.getElem_mem _)) (hr2 _ (List.getElem_mem _))
  ·exact⟨M,ps,d,h.skip (fun q h1 h2=>Classical.byContradiction (fun h3=>hz ⟨q,h1,h2,h3⟩)),hr⟩
theorem qNI{M0:List (List Int)}{c:Nat}(hc:∀r∈M0,r.length=c):∃(A M:List Vec) (ps:List Nat) (d:Int),A.length=M0.length/\(∀r,r∈A ↔ r∈M0.map vec)/\qB4 A M ps d c/\(∀i (h:i<M.length),ps.length<=i->∀j,M[i] j=0)/\(Ind (M0.map vec) ↔ ps.length=M.length):=by
 obtain⟨M,ps,d,⟨A,a1,a2,a3,a4⟩,hr⟩:=qG6 hc c;have hz:∀i (h:i<(M.map vec).length),ps.length<=i->∀j,(M.map vec)[i] j=0:=fun i h hp j=>by
  rcases Nat.lt_or_ge j c with hj|hj
  ·exact a3.zero i h hp j hj
  ·rw[List.getElem_map,qAs (by rw[hr _ (List.getElem_mem _)];exact hj)]
 refine⟨A.map vec,M.map vec,ps,d,by rw[List.length_map,a1],fun r=> ?_,a3,hz,a4.trans (a3.ind hz)⟩;simp only[List.mem_map];exact⟨fun⟨x,hx,e⟩=>⟨x,(a2 x).1 hx,e⟩,fun⟨x,hx,e⟩=>⟨x,(a2 x).2 hx,e⟩⟩
theorem Nrm.piv_dvd:∀{lo:Nat} {B:List Vec} {v:Vec} {c:Nat},Nrm lo B->qAa B v->qC2 v c->∃s∈B,qC2 s c/\0<s c/\s c∣v c
 |_,[],v,c,_,h,hp=>absurd (qDn h c) hp.2
 |lo,r::rs,v,c,⟨p,h1,h2,h3,h4,h5⟩,h,hp=>by
  obtain⟨x,w,hw,he⟩:=qC9 h;rcases Nat.lt_trichotomy c p with hc|hc|hc
  ·refine absurd ?_ hp.2
   rw[he,h2.1 c hc,h4.low hw c (by omega)];simp
  ·subst hc
   exact⟨r,by simp,h2,h3,x,by rw[he,h4.low hw c (by omega),Int.mul_comm];simp⟩
  ·obtain⟨s,k1,k2⟩:=h4.piv_dvd (h4_tail h2 h4 h (hp.1 p hc)) hp
   exact⟨s,by simp[k1],k2⟩
where h4_tail {p:Nat} {r:Vec} {rs:List Vec} {v:Vec} (h2:qC2 r p) (h4:Nrm (p+1) rs) (h:qAa (r::rs) v) (h0:v p=0):qAa rs v:=Nrm.tail h2.2 h4 h h0
theorem Nrm.ent_le:∀{lo:Nat} {B:List Vec},Nrm lo B->∀v∈B,∀s∈B,∀e,qC2 s e->0<=v e/\v e<=s e
 |_,[],_,v,hv,_,_,_,_=>by cases hv
 |lo,r::rs,⟨p,h1,h2,h3,h4,h5⟩,v,hv,s,hs,e,he=>by
  rcases List.mem_cons.1 hv with rfl|hv'<;>rcases List.mem_cons.1 hs with rfl|hs'
  ·obtain rfl:=h2.uniq he
   omega
  ·have:=h5 s hs' e he;omega
  ·obtain rfl:=h2.uniq he
   have:=h4.low (qAa.mem hv') p (by omega);omega
  ·exact h4.ent_le v hv' s hs' e he
section
variable {A M:List Vec}{ps:List Nat}{d:Int}{col:Nat}
theorem qB4.mpiv(h:qB4 A M ps d col)(t:Nat)(ht:t<ps.length)(hm:t<M.length):qC2 M[t] ps[t]/\M[t] ps[t]=d:=by
 have h1:=h.diag t t hm ht ht;rw[if_pos rfl]at h1;exact⟨⟨fun j hj=>h.left t hm ht j hj,by rw[h1];exact h.d0⟩,h1⟩
theorem qB4.mspan(h:qB4 A M ps d col)(t:Nat)(hm:t<M.length):qAa A M[t]:=(h.minor _ (List.getElem_mem hm)).span
theorem qB4.lenM(h:qB4 A M ps d col):ps.length<=M.length:=by have:=h.len;have:=h.le;omega
theorem qB4.piv(h:qB4 A M ps d col)(h0:∀i (h:i<M.length),ps.length<=i->∀j,M[i] j=0){v:Vec}(hv:qAa A v){c:Nat}(hp:qC2 v c):c∈ps:=by
 refine Classical.byContradiction (fun hn=>hp.2 ?_);have h1:=h.coord h0 hv c;rw[qBs _ _ _ _ (fun t ht=>by
  have htp:t<ps.length:=by rw[List.length_take]at ht;omega
  rw[Nat.zero_add,List.getElem_take];rcases Nat.lt_trichotomy ps[t] c with hc|hc|hc
  ·simp only[res,dif_pos htp]
   rw[hp.1 _ hc,Int.zero_mul]
  ·exact absurd (hc▸List.getElem_mem htp) hn
  ·rw[h.left t (by rw[List.length_take]at ht;omega) htp c hc,Int.mul_zero])]at h1
 exact(Int.mul_eq_zero.1 h1).resolve_left h.d0
end
theorem qPF(D F:Nat)(u:Vec)(j:Nat):∀(M:List Vec) (s:Nat),(∀t,(u t).natAbs<=D)->(∀r∈M,(r j).natAbs<=F)->(qBg u M s j).natAbs<=M.length*(D*F)
 |[],s,_,_=>by simp[qBg]
 |r::M,s,h1,h2=>by
  have ih:=qPF D F u j M (s+1) h1 (fun r hr=>h2 r (by simp[hr]));have h3:(u s*r j).natAbs<=D*F:=by rw[Int.natAbs_mul];exact Nat.mul_le_mul (h1 s) (h2 r (by simp))
  simp only[qBg,List.length_cons,Nat.succ_mul];omega
def fac:Nat->Nat
 |0=>1
 |n+1=>(n+1)*fac n
theorem qNE:∀n,1<=fac n
 |0=>Nat.le_refl _
 |n+1=>Nat.mul_pos (by omega) (qNE n)
theorem qNW(X:Nat):∀(cs:List Nat) (K:Nat) (R:List Vec),R.length<=K->(∀r∈R,∀j,(r j).natAbs<=X)->(det cs R).natAbs<=fac K*X^cs.length
 |[],K,R,_,_=>by simp[det];exact qNE K
 |c::cs,0,R,hK,hM=>by
  have:R=[]:=List.eq_nil_of_length_eq_zero (by omega);subst this;simp[det,xpd]
 |c::cs,K+1,R,hK,hM=>by
  have:=qMe c X (fac K*X^cs.length) R (det cs) (fun r hr=>hM r hr c) (fun l hl hlen=>qNW X cs K l (by omega) (fun r hr=>hM r (hl r hr)));refine Nat.le_trans this (Nat.le_trans (Nat.mul_le_mul_right _ hK) (Nat.le_of_eq ?_));rw[List.length_cons,Nat.pow_succ,fac,<-Nat.mul_assoc X,Nat.mul_comm X,Nat.mul_assoc,Nat.mul_comm X,<-Nat.mul_assoc]
theorem qEX.fac{A:List Vec}{v:Vec}(h:qEX A v)(X K:Nat)(hK:A.length<=K)(hX1:1<=X)(hX:∀r∈A,∀j,(r j).natAbs<=X)(j:Nat):(v j).natAbs<=Go.Proofs.YtkjhlkngihponaaGreatDoor.fac K*X^K:=by
 obtain⟨s,C,R,hs,hC,hR,hRA,hv⟩:=h;have h1:=qNW X (j::C) K R (by omega) (fun r hr=>hX r (hRA r hr));have h2:X^(j::C).length<=X^K:=Nat.pow_le_pow_right hX1 (by simp;omega);rw[hv,Int.natAbs_mul];have:s.natAbs=1:=by rcases hs with rfl|rfl<;>rfl
 rw[this,Nat.one_mul];exact Nat.le_trans h1 (Nat.mul_le_mul_left _ h2)
theorem qAW.bound{M0:List (List Int)}{H:List Vec}{c n K X:Nat}(h:qAW (M0.map vec) c H)(hn:∀r∈M0,r.length=n)(hl:M0.length<=K)(hX1:1<=X)(hX:∀r∈M0.map vec,∀j,(r j).natAbs<=X):∀v∈H,∀j,(v j).natAbs<=K*(fac K*X^K):=by
 obtain⟨A,M,ps,d,a1,a2,he,h0,-⟩:=qNI hn;have hA:∀r∈A,qAa (M0.map vec) r:=fun r hr=>qAa.mem ((a2 r).1 hr);have hA':∀r∈M0.map vec,qAa A r:=fun r hr=>qAa.mem ((a2 r).2 hr);have hXA:∀r∈A,∀j,(r j).natAbs<=X:=fun r hr=>hX r ((a2 r).1 hr);intro v hv j;obtain⟨u,u1,u2,u3⟩:=(h.span v).1 (qAa.mem hv);have u1':=u1.trans hA';have hc:=he.coord h0 u1' (c+j);have hb:∀t,(res ps u t).natAbs<=d.natAbs:=fun t=>by
  unfold res
  split
  ·next ht=>
   have htm:t<M.length:=Nat.lt_of_lt_of_le ht he.lenM;rcases Nat.lt_or_ge ps[t] c with hp|hp
   ·rw[u2 _ hp];simp
   ·obtain⟨p1,p2⟩:=he.mpiv t ht htm
    have e1:c+(ps[t]-c)=ps[t]:=by omega
    have hs:qAa H (sh c M[t]):=(h.span _).2 ⟨M[t],(he.mspan t htm).trans hA,fun k hk=>p1.1 k (by omega),fun k=>rfl⟩;obtain⟨s,s1,s2,s3,s4⟩:=h.nrm.piv_dvd (c:=ps[t]-c) hs ⟨fun k hk=>p1.1 _ (by omega),by unfold sh;rw[e1];exact p1.2⟩;have s5:=h.nrm.ent_le v hv s s1 _ s2;have s6:=u3 (ps[t]-c);rw[e1]at s6;have s7:sh c M[t] (ps[t]-c)=d:=by unfold sh;rw[e1];exact p2
    rw[s7]at s4;have s8:(s (ps[t]-c)).natAbs<=d.natAbs:=Nat.le_of_dvd (Int.natAbs_pos.2 he.d0) (Int.natAbs_dvd_natAbs.2 s4);rw[<-s6];omega
  ·simp
 have hm:=qPF d.natAbs (fac K*X^K) (res ps u) (c+j) (M.take ps.length) 0 hb (fun r hr=>(he.minor r (List.mem_of_mem_take hr)).fac X K (by rw[a1];exact hl) hX1 hXA (c+j));rw[<-hc,Int.natAbs_mul,<-u3]at hm;have hk:(M.take ps.length).length<=K:=by
  rw[List.length_take];have:=he.len;omega
 have h9:d.natAbs*(v j).natAbs<=d.natAbs*(K*(fac K*X^K)):=by
  refine Nat.le_trans hm (Nat.le_trans (Nat.mul_le_mul_right _ hk) (Nat.le_of_eq ?_));rw[Nat.mul_left_comm]
 exact Nat.le_of_mul_le_mul_left h9 (Int.natAbs_pos.2 he.d0)
theorem Nrm.pivots:∀{lo:Nat} {B:List Vec},Nrm lo B->∃P:List Nat,P.length=B.length/\P.Pairwise (· < ·)/\(∀p∈P,lo<=p)/\∀e,e∈P ↔ ∃s∈B,qC2 s e
 |lo,[],_=>⟨[],rfl,List.Pairwise.nil,by simp,by simp⟩
 |lo,r::rs,⟨c,h1,h2,h3,h4,h5⟩=>by
  obtain⟨P,p1,p2,p3,p4⟩:=h4.pivots;refine⟨c::P,by simp[p1],List.pairwise_cons.2 ⟨fun a ha=>by have:=p3 a ha;omega,p2⟩,fun p hp=> ?_,fun e=> ?_⟩
  ·rcases List.mem_cons.1 hp with rfl|hp
   ·exact h1
   ·have:=p3 p hp;omega
  ·constructor
   ·intro he
    rcases List.mem_cons.1 he with rfl|he
    ·exact⟨r,by simp,h2⟩
    ·obtain⟨s,s1,s2⟩:=(p4 e).1 he
     exact⟨s,by simp[s1],s2⟩
   ·rintro⟨s,hs,hp⟩
    rcases List.mem_cons.1 hs with rfl|hs
    ·obtain rfl:=h2.uniq hp
     simp
    ·exact List.mem_cons.2 (.inr ((p4 e).2 ⟨s,hs,hp⟩))
theorem qKX{x:Vec}{j:Nat}:∀(L L':List Vec) (s:Nat),L.length=L'.length->(∀i (h:i<L.length) (h':i<L'.length),L[i] j=L'[i] j)->qBg x L s j=qBg x L' s j
 |[],[],s,_,_=>rfl
 |[],a::b,s,hl,_=>by simp at hl
 |a::b,[],s,hl,_=>by simp at hl
 |r::L,r'::L',s,hl,he=>by
  simp only[qBg];rw[qKX L L' (s+1) (by simpa using hl) (fun i h h'=>he (i+1) (by simpa using h) (by simpa using h'))];have:=he 0 (by simp) (by simp);simp only[List.getElem_cons_zero]at this;rw[this]
theorem qNq{m:List (List Int)}{c:Nat}(hc:∀r∈m,r.length=c)(x:Vec)(j:Nat)(hj:j<c):qBg x ((qAN m).map vec) 0 j=qBg x (m.map vec) 0 j:=by
 refine qKX _ _ 0 (by simp[qAq]) (fun i h h'=> ?_);simp only[List.length_map]at h';rw[List.getElem_map,List.getElem_map,qBj m i h',qCo,qFw,if_pos (by rw[hc _ (List.getElem_mem _)];exact hj)]
theorem qKO{m:List (List Int)}{c:Nat}(hc:∀r∈m,r.length=c)(x:Vec)(t:Nat):qBg x ((qAN m).map vec) 0 (c+t)=if t<m.length then x t else 0:=by
 rw[qHP x (c+t) t _ 0 (fun i h=> ?_)]
 ·simp[qAq]
 ·simp only[List.length_map,qAq]at h
  rw[List.getElem_map,qBj m i h,qCo,qFw,hc _ (List.getElem_mem _),if_neg (by omega),show c+t-c=t by omega,qHh _ _ _ h,Nat.zero_add]
theorem qNp{m:List (List Int)}{c:Nat}(hc:∀r∈m,r.length=c)(x:Vec)(j:Nat)(hj:c<=j):qBg x (m.map vec) 0 j=0:=
 qBs _ _ _ _ (fun t ht=>by
  rw[List.getElem_map,qAs (by rw[hc _ (List.getElem_mem _)];exact hj),Int.mul_zero])
theorem qBL.norm{m:List (List Int)}{c:Nat}(hc:∀r∈m,r.length=c){H:List Vec}(h:qBL m H):qAW ((qAN m).map vec) c H:=by
 refine⟨h.nrm,fun v=>(h.span v).trans ⟨?_,?_⟩⟩
 ·rintro⟨h1,h2⟩
  refine⟨qBg v ((qAN m).map vec) 0,qFk.2 ⟨v,fun _=>rfl⟩,fun j hj=>by rw[qNq hc v j hj,h2],fun j=> ?_⟩;rw[qKO hc]
  split
  ·rfl
  ·exact h1 j (by omega)
 ·rintro⟨u,h1,h2,h3⟩
  obtain⟨x,hx⟩:=qFk.1 h1;have h4:∀t,v t=if t<m.length then x t else 0:=fun t=>by rw[h3,hx,qKO hc]
  refine⟨fun j hj=>by rw[h4,if_neg (by omega)],fun j=> ?_⟩;rcases Nat.lt_or_ge j c with hj|hj
  ·rw[qCB v x j _ 0 (fun t _ ht=>by rw[h4,if_pos (by simpa using ht)]),<-qNq hc x j hj,<-hx,h2 j hj]
  ·exact qNp hc v j hj
theorem qJV{m:List (List Int)}{c:Nat}(hc:∀r∈m,r.length=c):∀r∈qAN m,r.length=c+m.length:=by
 intro r hr;obtain⟨i,hi,rfl⟩:=List.mem_iff_getElem.1 hr;rw[qAq]at hi;rw[qBj m i hi,qCo,List.length_append,hc _ (List.getElem_mem _)];simp
theorem qLM{m:List (List Int)}{X:Nat}(h1:1<=X)(h:∀r∈m,∀x∈r,x.natAbs<=X):∀r∈(qAN m).map vec,∀j,(r j).natAbs<=X:=by
 intro r hr j;obtain⟨l,hl,rfl⟩:=List.mem_map.1 hr;obtain⟨i,hi,rfl⟩:=List.mem_iff_getElem.1 hl;rw[qAq]at hi;rw[qBj m i hi,qCo,qFw]
 split
 ·next hj=>rw[qAp hj];exact h _ (List.getElem_mem _) _ (List.getElem_mem _)
 ·rw[qHh _ _ _ hi]
  split<;>omega
theorem qM3{n:Nat}:∀{b:List (List Int)} {lo:Nat},(∀r∈b,r.length=n)->Nrm lo (b.map vec)->IsN b n:=by
 have key:∀{b:List (List Int)} {lo:Nat},(∀r∈b,r.length=n)->Nrm lo (b.map vec)->(∀r∈b,lo<=pv r/\pv r<n/\0<vec r (pv r))/\∀i (hi:i<b.length) k (hk:k<i),pv (b[k]'(by omega))<pv b[i]/\0<=vec (b[k]'(by omega)) (pv b[i])/\vec (b[k]'(by omega)) (pv b[i])<vec b[i] (pv b[i]):=by
  intro b
  induction b with
  |nil=>intro lo _ _;exact⟨fun r hr=>(by cases hr),fun i hi=>(by simp at hi)⟩
  |cons r b ih=>
   intro lo hl h;obtain⟨c,h1,h2,h3,h4,h5⟩:=h;obtain⟨i1,i2⟩:=ih (fun r hr=>hl r (by simp[hr])) h4;have hrl:=hl r (by simp);have hcn:c<r.length:=by
    refine Classical.byContradiction (fun hn=>h2.2 ?_);exact qAs (by omega)
   have hpv:pv r=c:=qSb h2.1 hcn h2.2;refine⟨fun s hs=> ?_,fun i hi k hk=> ?_⟩
   ·rcases List.mem_cons.1 hs with rfl|hs
    ·rw[hpv];exact⟨h1,by omega,h3⟩
    ·have:=i1 s hs;omega
   ·cases i with
    |zero=>omega
    |succ i=>
     have hib:i<b.length:=by simpa using hi
     have j1:=i1 _ (List.getElem_mem hib);cases k with
     |zero=>
      simp only[List.getElem_cons_zero,List.getElem_cons_succ];rw[hpv];have hpi:qC2 (vec b[i]) (pv b[i]):=⟨fun j hj=>qMN hj,by omega⟩;have:=h5 (vec b[i]) (List.mem_map.2 ⟨_,List.getElem_mem hib,rfl⟩) _ hpi;exact⟨by omega,this⟩
     |succ k=>
      simp only[List.getElem_cons_succ];exact i2 i hib k (by omega)
 intro b lo hl h i hi h';obtain⟨k1,k2⟩:=key hl h;have j1:=k1 _ (List.getElem_mem hi);exact⟨hl _ (List.getElem_mem hi),j1.2.1,Int.le_of_lt j1.2.2,fun k hk=>(k2 i hi k hk).1,fun k hk=>(k2 i hi k hk).2⟩
theorem qSp{M:List (List Int)}{X:Nat}(h:∀r∈M,∀x∈r,x.natAbs<=X)(k j:Nat):(ent M k j).natAbs<=X:=by
 unfold ent vec;cases hk:M[k]? with
 |none=>simp
 |some r=>
  simp only[Option.getD_some];cases hj:r[j]? with
  |none=>simp
  |some x=>exact h r (List.mem_of_getElem? hk) x (List.mem_of_getElem? hj)
def sw(a b k:Nat):Nat:=if k=b then a else if k=a then b else k
theorem qRk(a b k:Nat):sw a b (sw a b k)=k:=by unfold sw;grind
theorem qMr{a b k m:Nat}(ha:a<m)(hb:b<m)(hk:k<m):sw a b k<m:=by unfold sw;grind
theorem qRl{a b k k':Nat}(h:sw a b k=sw a b k'):k=k':=by rw[<-qRk a b k,h,qRk]
theorem qSo{a q y:Int}{X Q:Nat}(ha:a.natAbs<=X)(hq:q.natAbs<=Q)(hy:y.natAbs<=X):(a-q*y).natAbs<=X+Q*X:=by
 have h1:(q*y).natAbs<=Q*X:=by rw[Int.natAbs_mul];exact Nat.mul_le_mul hq hy
 omega
theorem qAg.of_own{w:World}{base:Nat}{a:Option Addr}{c:Nat}{r:List Int}(h:w.ownsRow base 3 1 (.slice a r.length c) r.length (r.map zv)):qAg w (.slice a r.length c) r:=by
 rcases id h.2 with ⟨hv,h0⟩|⟨g,cap,cur,hv,_,hg,h1,h2,_⟩
 ·injection hv with e1 e2 e3
  subst e1 e3;exact⟨none,0,rfl,by omega,by omega,fun h9=>by omega⟩
 ·injection hv with e1 e2 e3
  subst e1 e3;unfold maxLen at h2;refine⟨_,c,rfl,h1,by omega,fun _=>⟨g,rfl,(Array.getElem?_eq_some_iff.1 hg).1,fun j hj=>⟨_,rfl,rfl,fun i hi=> ?_⟩⟩⟩;obtain rfl:i=0:=by omega
  rw[Nat.mul_one,Nat.add_zero,h.cellAt j (by omega)];simp[hj,zv]
abbrev Yw:=Option Addr×Nat
def yV(n:Nat)(x:Yw):Value:=.slice x.1 n x.2
structure YMt(w:World)(B:Nat)(v:Value)(l:List Yw)(n:Nat)(M:List (List Int)):Prop where
 own:w.ownsRow B 22 1 v l.length (l.map (yV n))
 len:M.length=l.length
 row:∀i (h:i<l.length) (h':i<M.length),w.ownsRow B 3 1 (yV n l[i]) n (M[i].map zv)/\M[i].length=n
 nodup:∀i j (h:i<l.length) (h':j<l.length) g,i≠j->(yV n l[i]).ownBlock=some g->(yV n l[j]).ownBlock≠some g
section
variable {w w':World}{B n:Nat}{v:Value}{l:List Yw}{M:List (List Int)}
theorem YMt.only{S:Nat->Prop}(h:YMt w B v l n M)(ho:qAc S w w')(hv:∀g,v.ownBlock=some g->¬S g)(hr:∀i (hi:i<l.length) g,(yV n l[i]).ownBlock=some g->¬S g):YMt w' B v l n M:=
 ⟨ho.own h.own hv,h.len,fun i hi hi'=>⟨ho.own (h.row i hi hi').1 (hr i hi),(h.row i hi hi').2⟩,h.nodup⟩
theorem YMt.blw(h:YMt w B v l n M)(hb:Below w.heap.size w w'):YMt w' B v l n M:=h.only (S:=fun _=>False) (qAc.of_below hb) (fun _ _ h=>h) (fun _ _ _ _ h=>h)
instance:Mv w w' (YMt w B v l n M) (YMt w' B v l n M):=⟨fun hb h=>YMt.blw h hb⟩
theorem YMt.mat(h:YMt w B v l n M):qA8 w v M:=by
 refine qAb.of_own (css:=l.map (fun x=>[yV n x])) (base:=B) (e:=22) (by rw[qBf,List.length_map];exact h.own) (fun cs h=>by obtain⟨x,_,rfl⟩:=List.mem_map.1 h;rfl) (by rw[List.length_map];exact h.len.symm) (fun j h1 h2=> ?_);have h3:j<l.length:=by rw[<-h.len];exact h1
 obtain⟨k1,k2⟩:=h.row j h3 h1;rw[List.getElem_map];refine⟨_,rfl,?_⟩;have:=qAg.of_own (r:=M[j]) (a:=l[j].1) (c:=l[j].2) (by rw[k2];exact k1)
 rwa [k2]at this
theorem qKH{w:World}{B B' n n' k k' g:Nat}{t t':TypeId}{v v':Value}{xs xs':List Value}(h:w.ownsRow B t k v n xs)(h':w.ownsRow B' t' k' v' n' xs')(hv:v.ownBlock=some g)(hv':v'.ownBlock=some g):t=t':=by
 rcases h.2 with ⟨e,_⟩|⟨g1,cap,cur,e,_,hg,_⟩
 ·rw[e]at hv;cases hv
 ·rcases h'.2 with ⟨e',_⟩|⟨g2,cap',cur',e',_,hg',_⟩
  ·rw[e']at hv';cases hv'
  ·rw[e]at hv
   rw[e']at hv';simp only[Value.ownBlock,Option.some.injEq]at hv hv';subst hv hv';rw[hg]at hg';injection hg' with hg';injection hg' with _ h2 _
theorem YMt.apart(h:YMt w B v l n M)(i:Nat)(hi:i<l.length)(g:Nat)(h1:(yV n l[i]).ownBlock=some g):v.ownBlock≠some g:=fun h2=>by
 have:=qKH (h.row i hi (by rw[h.len];exact hi)).1 h.own h1 h2;exact absurd this (by decide)
theorem YMt.some_(h:YMt w B v l n M)(hn:0<n)(i:Nat)(hi:i<l.length):∃g,l[i].1=some ⟨g,0,none⟩/\B<=g/\g<w.heap.size/\n<=l[i].2:=by
 rcases(h.row i hi (by rw[h.len];exact hi)).1.2 with ⟨e,_⟩|⟨g,cap,cur,e,hb,hg,hnc,_⟩
 ·injection e with _ e _;omega
 ·injection e with e1 e2 e3
  exact⟨g,e1,hb,(Array.getElem?_eq_some_iff.1 hg).1,by rw[e3];exact hnc⟩
theorem YMt.cell(h:YMt w B v l n M){g:Nat}(i:Nat)(hi:i<l.length)(hg:l[i].1=some ⟨g,0,none⟩)(j:Nat)(hj:j<n)(hi':i<M.length)(hj':j<M[i].length):w.cell? ⟨g,j,none⟩=some (.int .i64 M[i][j]):=by
 have h1:=(h.row i hi hi').1;rw[yV,hg]at h1;rw[h1.cellAt j (by omega)];simp[hj',zv]
theorem YMt.frozen(h:YMt w B v l n M){g:Nat}(i:Nat)(hi:i<l.length)(hg:l[i].1=some ⟨g,0,none⟩)(j:Nat):w.frozen? ⟨g,j,none⟩=false:=by
 have h1:=(h.row i hi (by rw[h.len];exact hi)).1;rw[yV,hg]at h1;exact h1.frozenAt j
theorem YMt.put(h:YMt w B v l n M){g i j:Nat}(hi:i<l.length)(hi':i<M.length)(hg:l[i].1=some ⟨g,0,none⟩)(z:Int):YMt (w.setCell ⟨g,j,none⟩ (.int .i64 z)) B v l n (M.set i (M[i].set j z)):=by
 have ho:qAc (fun b=>b=g) w (w.setCell ⟨g,j,none⟩ (.int .i64 z)):=(qAc.refl (fun b=>b=g) w).set (p:=⟨g,j,none⟩) rfl _;have hgi:(yV n l[i]).ownBlock=some g:=by rw[yV,hg];rfl
 refine⟨ho.own h.own (fun b hb e=>h.apart i hi g hgi (by rw[hb,e])),by rw[List.length_set];exact h.len,fun k hk hk'=> ?_,h.nodup⟩;have hk2:k<M.length:=by simpa using hk'
 by_cases e:k=i
 ·subst e
  obtain⟨h1,h2⟩:=h.row k hk hk2;rw[List.getElem_set_self];refine⟨?_,by rw[List.length_set];exact h2⟩;rw[yV,hg]at h1 ⊢;have:=(h1.stored j (.int .i64 z)).1
  rwa [show(Value.int .i64 z)=zv z from rfl,<-List.map_set]at this
 ·rw[List.getElem_set_ne (Ne.symm e)]
  exact⟨ho.own (h.row k hk hk2).1 (fun b hb e2=>h.nodup k i hk hi b e hb (by rw[hgi,e2])),(h.row k hk hk2).2⟩
theorem YMt.swap{R c:Nat}(h:YMt w B (.slice (some ⟨R,0,none⟩) l.length c) l n M){a b:Nat}(ha:a<l.length)(hb:b<l.length)(ha':a<M.length)(hb':b<M.length):
 YMt ((w.setCell ⟨R,a,none⟩ (.slice l[b].1 n l[b].2)).setCell ⟨R,b,none⟩ (.slice l[a].1 n l[a].2)) B (.slice (some ⟨R,0,none⟩) l.length c) (qAH l a b ha hb) n (qAH M a b ha' hb'):=by
 have ho:qAc (fun g=>g=R) w ((w.setCell ⟨R,a,none⟩ (.slice l[b].1 n l[b].2)).setCell ⟨R,b,none⟩ (.slice l[a].1 n l[a].2)):=((qAc.refl (fun g=>g=R) w).set (p:=⟨R,a,none⟩) rfl _).set (p:=⟨R,b,none⟩) rfl _;have inj:∀i (hi:i<l.length),(qAH l a b ha hb)[i]'(by rw[qAe];exact hi)=l[sw a b i]'(qMr ha hb hi):=fun i hi=>by
  rw[qAx i hi];unfold sw
  split
  ·rfl
  ·split<;>rfl
 have injM:∀i (hi:i<M.length),(qAH M a b ha' hb')[i]'(by rw[qAe];exact hi)=M[sw a b i]'(qMr ha' hb' hi):=fun i hi=>by
  rw[qAx i hi];unfold sw
  split
  ·rfl
  ·split<;>rfl
 refine⟨?_,by rw[qAe,qAe,h.len],fun i hi hi'=> ?_,fun i j hi hj g hij=> ?_⟩
 ·have h1:=((h.own.stored a (.slice l[b].1 n l[b].2)).1.stored b (.slice l[a].1 n l[a].2)).1
  rw[qAe];have e:(qAH l a b ha hb).map (yV n)=((l.map (yV n)).set a (.slice l[b].1 n l[b].2)).set b (.slice l[a].1 n l[a].2):=by unfold qAH;rw[List.map_set,List.map_set];rfl
  rw[e];exact h1
 ·rw[qAe]at hi hi'
  simp only[inj i hi,injM i hi'];obtain⟨h1,h2⟩:=h.row _ (qMr ha hb hi) (qMr ha' hb' hi');exact⟨ho.own h1 (fun g hg e=>h.apart _ (qMr ha hb hi) g hg (by rw[e];rfl)),h2⟩
 ·rw[qAe]at hi hj
  simp only[inj i hi,inj j hj];exact h.nodup _ _ _ _ g (fun e=>hij (qRl e))
end
theorem qAl.at_{w:World}{v:Value}{l:List Amt}(h:qAl w v l)(j:Nat)(hj:j<l.length):
 ∃b cap,v=.slice (some ⟨b,0,none⟩) l.length cap/\b<w.heap.size/\w.cell? ⟨b,j*2,none⟩=some (.int .i64 (l[j].item:Int))/\w.cell? ⟨b,j*2+1,none⟩=some (.int .i64 (l[j].n:Int)):=by
 obtain⟨b,cap,cs,hv,hb,rfl,_,hc⟩:=qAb.at_ h j hj;exact⟨b,cap,hv,hb,hc 0 (by omega),hc 1 (by omega)⟩
theorem qBU(l:List Amt)(a:Amt):(l++[a]).flatMap qFa=l.flatMap qFa++qFa a:=by simp
theorem qMO(it k:Nat)(d:Bool)(l:List Amt)(j:Nat)(hj:j<l.length):
 qDL it k d (l.drop j)=if l[j].item=it then ⟨it,l[j].n+k⟩::qDL it k true (l.drop (j+1))
 else if it<l[j].item/\d=false then ⟨it,k⟩::l[j]::qDL it k true (l.drop (j+1))else l[j]::qDL it k d (l.drop (j+1)):=by
 rw[List.drop_eq_getElem_cons hj,qDL]
theorem qQi(w:World)(t:TypeId):Hid (w.ownsRow w.heap.size t 2 (.slice none 0 0) ([]:List Amt).length (([]:List Amt).flatMap qFa)):=hZ (World.ownsRow_nil _ _ _ _)
def qRq(w:World)(l:List Amt)(it k:Nat)(o d i:Value)(wr:World):Prop:=
 ∃(j:Nat) (acc:List Amt) (dn:Bool) (ga:Option Addr) (gc:Nat),j<=l.length/\acc.length<=2*j/\gc<=9223372036854775807/\i=.int .i64 j/\d=.bool dn/\o=.slice ga acc.length gc/\Hid (wr.ownsRow w.heap.size 108 2 (.slice ga acc.length gc) acc.length (acc.flatMap qFa))/\Hid (acc++qDL it k dn (l.drop j)=qMP l it k)/\Hid (Below w.heap.size w wr)
theorem qHu(v:Value)(l:List Amt)(it k:Nat)(w:World)(h:qAl w v l)(hl:l.length<=1000)(hall:∀a∈l,a.n<=1000000)(hit:it<=1000000)(hk:k<=1000000):
 Calls Tryz.prog 37 #[v,.int .i64 it,.int .i64 k] w fun e w'=>(∃v',e=.returned v'/\qAl w' v' (qMP l it k))/\Below w.heap.size w w':=by
 have HL:=hZ h;obtain⟨a0,c0,rfl,h1,h2⟩:=h.form;clear h
 go_enter Tryz.func37,Tryz.ntmps37
 go_wp2_with fail
 go_loopw [7,8,9] (qRq w l it k) (fun _ _ i _=>l.length-(intOf i).toNat)
 case atStart=>exact⟨0,[],false,none,0,by omega,by simp,by omega,rfl,rfl,rfl,qQi _ _,hZ (by simp[qMP]),hZ (Below.refl _ _)⟩
 case round=>
  obtain⟨j,acc,dn,ga,gc,hj,hacc,hgc,rfl,rfl,rfl,HO,HE,HB⟩:=hrel;have hwr:=HB.o.size;by_cases hlt:j<l.length
  ·obtain⟨b,cap,hv,hb,hw0,hw1⟩:=HL.o.at_ j hlt
   injection hv with e1 e2 e3;subst e1;clear e3 e2;have hn:=hall l[j] (List.getElem_mem hlt);have HS:=hZ (qMO it k dn l j hlt);have HE2:=HE.o;rw[HS.o]at HE2;have HX:Hid (l[j]=⟨l[j].item,l[j].n⟩):=hZ rfl;generalize hx:l[j]=x at *;clear hx;obtain⟨xi,xn⟩:=x;simp only[]at hw0 hw1 hn HE2;have HW0:=hZ hw0;have HW1:=hZ hw1;clear hw0 hw1;have hc0:=(HB.o.cell (p:=⟨b,j*2,none⟩) hb).trans HW0.o;have hc1:=(HB.o.cell (p:=⟨b,j*2+1,none⟩) hb).trans HW1.o;by_cases hx:xi=it
   ·rw[if_pos hx]at HE2
    have hxI:((xi:Int)==(it:Int))=true:=by simp[hx]
    have HE3:=hZ HE2;clear HE2 HE HS HX hx
    go_wp2_with (at_builtin;refine qAn qEQ rfl _ _ rfl [.int .i64 (it:Int),.int .i64 ((xn:Int)+(k:Int))] 108 _ _ _ rfl rfl rfl (by simp[Value.oneCell']) HO.o HB.o (by have:=HB.o.size;omega) (by omega) (by omega) ?_)
    intro g5 cap5 w5 Hown5 HB5 HO5 hcap5 hat5;have Hown6:Hid (w5.ownsRow w.heap.size 108 2 (.slice (some ⟨g5,0,none⟩) (acc++[(⟨it,xn+k⟩:Amt)]).length cap5) (acc++[(⟨it,xn+k⟩:Amt)]).length ((acc++[(⟨it,xn+k⟩:Amt)]).flatMap qFa)):=hZ (by rw[qBU,List.length_append];exact Hown5.o);clear Hown5 HO5 hat5
    go_wp2_with fail
    go_roundw
    case rel=>exact⟨j+1,acc++[⟨it,xn+k⟩],true,_,cap5,by omega,by simp;omega,hcap5,by go_num,rfl,by simp,Hown6,hZ (by rw[<-HE3.o];simp),HB5⟩
    case measure=>simp[intOf];omega
   ·rw[if_neg hx]at HE2
    have hxI:((xi:Int)==(it:Int))=false:=by simp;omega
    by_cases hy:it<xi/\dn=false
    ·rw[if_pos hy]at HE2
     obtain⟨hy1,rfl⟩:=hy;have hyI:decide ((it:Int)<(xi:Int))=true:=by simp;omega
     have HE3:=hZ HE2;clear HE2 HE HS HX hx
     go_wp2_with (at_builtin;refine qAn qEQ rfl _ _ rfl [.int .i64 (it:Int),.int .i64 (k:Int)] 108 _ _ _ rfl rfl rfl (by simp[Value.oneCell']) HO.o HB.o (by have:=HB.o.size;omega) (by omega) (by omega) ?_)
     intro g5 cap5 w5 Hown5 HB5 HO5 hcap5 hat5;have Hown6:Hid (w5.ownsRow w.heap.size 108 2 (.slice (some ⟨g5,0,none⟩) (acc++[(⟨it,k⟩:Amt)]).length cap5) (acc++[(⟨it,k⟩:Amt)]).length ((acc++[(⟨it,k⟩:Amt)]).flatMap qFa)):=hZ (by rw[qBU,List.length_append];exact Hown5.o);clear Hown5 HO5 hat5;clear hc0 hc1;have hc0:=(HB5.o.cell (p:=⟨b,j*2,none⟩) hb).trans HW0.o;have hc1:=(HB5.o.cell (p:=⟨b,j*2+1,none⟩) hb).trans HW1.o;have hacc6:(acc++[(⟨it,k⟩:Amt)]).length=acc.length+1:=by simp
     have HO:=Hown6;have HB:=HB5;rw[hacc6]at HO;clear Hown6 HB5 hyI;have hwr:=HB.o.size
     go_wp2_with (at_builtin;refine qAn qEQ rfl _ _ rfl [.int .i64 (xi:Int),.int .i64 (xn:Int)] 108 _ _ _ rfl rfl rfl (by simp[Value.oneCell']) HO.o HB.o (by have:=HB.o.size;omega) (by omega) (by omega) ?_)
     intro g6 cap6 w6 Hown5 HB5 HO5 hcap6 hat5;have Hown6:Hid (w6.ownsRow w.heap.size 108 2 (.slice (some ⟨g6,0,none⟩) (acc++[(⟨it,k⟩:Amt)]++[(⟨xi,xn⟩:Amt)]).length cap6) (acc++[(⟨it,k⟩:Amt)]++[(⟨xi,xn⟩:Amt)]).length ((acc++[(⟨it,k⟩:Amt)]++[(⟨xi,xn⟩:Amt)]).flatMap qFa)):=hZ (by have h9:=Hown5.o;simpa[qFa,zv,List.append_assoc,Nat.add_assoc]using h9);clear Hown5 HO5 hat5
     go_wp2_with fail
     go_roundw
     case rel=>exact⟨j+1,acc++[⟨it,k⟩]++[⟨xi,xn⟩],true,_,cap6,by omega,by simp;omega,hcap6,by go_num,rfl,by simp,Hown6,hZ (by rw[<-HE3.o];simp),HB5⟩
     case measure=>simp[intOf];omega
    ·rw[if_neg hy]at HE2
     have HE3:=hZ HE2;clear HE2 HE HS HX hx;by_cases hy1:it<xi
     ·have hdn:dn=true:=by cases dn<;>simp_all
      subst hdn;have hyI:decide ((it:Int)<(xi:Int))=true:=by simp;omega
      clear hy
      go_wp2_with (at_builtin;refine qAn qEQ rfl _ _ rfl [.int .i64 (xi:Int),.int .i64 (xn:Int)] 108 _ _ _ rfl rfl rfl (by simp[Value.oneCell']) HO.o HB.o (by have:=HB.o.size;omega) (by omega) (by omega) ?_)
      intro g5 cap5 w5 Hown5 HB5 HO5 hcap5 hat5;have Hown6:Hid (w5.ownsRow w.heap.size 108 2 (.slice (some ⟨g5,0,none⟩) (acc++[(⟨xi,xn⟩:Amt)]).length cap5) (acc++[(⟨xi,xn⟩:Amt)]).length ((acc++[(⟨xi,xn⟩:Amt)]).flatMap qFa)):=hZ (by rw[qBU,List.length_append];exact Hown5.o);clear Hown5 HO5 hat5
      go_wp2_with fail
      go_roundw
      case rel=>exact⟨j+1,acc++[⟨xi,xn⟩],true,_,cap5,by omega,by simp;omega,hcap5,by go_num,rfl,by simp,Hown6,hZ (by rw[<-HE3.o];simp),HB5⟩
      case measure=>simp[intOf];omega
     ·have hyI:decide ((it:Int)<(xi:Int))=false:=by simp;omega
      clear hy
      go_wp2_with (at_builtin;refine qAn qEQ rfl _ _ rfl [.int .i64 (xi:Int),.int .i64 (xn:Int)] 108 _ _ _ rfl rfl rfl (by simp[Value.oneCell']) HO.o HB.o (by have:=HB.o.size;omega) (by omega) (by omega) ?_)
      intro g5 cap5 w5 Hown5 HB5 HO5 hcap5 hat5;have Hown6:Hid (w5.ownsRow w.heap.size 108 2 (.slice (some ⟨g5,0,none⟩) (acc++[(⟨xi,xn⟩:Amt)]).length cap5) (acc++[(⟨xi,xn⟩:Amt)]).length ((acc++[(⟨xi,xn⟩:Amt)]).flatMap qFa)):=hZ (by rw[qBU,List.length_append];exact Hown5.o);clear Hown5 HO5 hat5
      go_wp2_with fail
      go_roundw
      case rel=>exact⟨j+1,acc++[⟨xi,xn⟩],dn,_,cap5,by omega,by simp;omega,hcap5,by go_num,rfl,by simp,Hown6,hZ (by rw[<-HE3.o];simp),HB5⟩
      case measure=>simp[intOf];omega
  ·have HE2:=HE.o
   rw[List.drop_of_length_le (by omega)]at HE2;cases dn with
   |true=>
    go_wp2_with fail
    go_ret;refine⟨⟨_,rfl,?_⟩,HB.o⟩;rw[<-HE2];simp only[qDL,if_true,List.append_nil];exact qGq HO.o
   |false=>
    have HE3:=hZ HE2;clear HE2 HE
    go_wp2_with (at_builtin;refine qAn qEQ rfl _ _ rfl [.int .i64 (it:Int),.int .i64 (k:Int)] 108 _ _ _ rfl rfl rfl (by simp[Value.oneCell']) HO.o HB.o (by have:=HB.o.size;omega) (by omega) (by omega) ?_)
    intro g5 cap5 w5 Hown5 HB5 HO5 hcap5 hat5;have Hown6:Hid (w5.ownsRow w.heap.size 108 2 (.slice (some ⟨g5,0,none⟩) (acc++[(⟨it,k⟩:Amt)]).length cap5) (acc++[(⟨it,k⟩:Amt)]).length ((acc++[(⟨it,k⟩:Amt)]).flatMap qFa)):=hZ (by rw[qBU,List.length_append];exact Hown5.o);clear Hown5 HO5 hat5
    go_wp2_with fail
    go_ret;refine⟨⟨_,rfl,?_⟩,HB5.o⟩;rw[<-HE3.o];have:=qGq Hown6.o;simpa[qDL]using this
structure Pl where
 at_:Option Addr
 ct:Nat
 ag:Option Addr
 cg:Nat
 ab:Option Addr
 cb:Nat
def qGu(r:Rul)(p:Pl):Value:=.agg #[.string ⟨r.name.toArray⟩,.bool r.spawn,.int .i64 0,.int .i64 r.time,.int .i64 1,.int .i64 r.of_,.slice p.at_ r.take.length p.ct,.slice p.ag r.give.length p.cg,.slice p.ab r.back.length p.cb]
def qLN(n:Tx):Value:=.agg #[.string ⟨n.toArray⟩,.bool false,.bool false,.bool false,.int .i64 0,.int .i64 0,.int .i64 0]
def qR0(a:Amt):Value:=.agg #[.int .i64 a.item,.int .i64 a.n]
def qBo(vi vr:Value):Value:=.agg #[vi,vr,.slice none 0 0,.slice none 0 0]
structure qFf(w:World)(r:Rul)(p:Pl):Prop where
 take:qAl w (.slice p.at_ r.take.length p.ct) r.take
 give:qAl w (.slice p.ag r.give.length p.cg) r.give
 back:qAl w (.slice p.ab r.back.length p.cb) r.back
 t1:r.take.length<=p.ct/\p.ct<=9223372036854775807
 g1:r.give.length<=p.cg/\p.cg<=9223372036854775807
 b1:r.back.length<=p.cb/\p.cb<=9223372036854775807
theorem qFf.below{w w':World}{r:Rul}{p:Pl}(h:qFf w r p)(hb:Below w.heap.size w w'):qFf w' r p:=⟨h.take.below hb,h.give.below hb,h.back.below hb,h.t1,h.g1,h.b1⟩
structure qDF(w:World)(b o:Nat)(r:Rul)(p:Pl):Prop where
 c0:w.cell? ⟨b,o,none⟩=some (.string ⟨r.name.toArray⟩)
 c1:w.cell? ⟨b,o+1,none⟩=some (.bool r.spawn)
 c2:w.cell? ⟨b,o+2,none⟩=some (.int .i64 0)
 c3:w.cell? ⟨b,o+3,none⟩=some (.int .i64 r.time)
 c4:w.cell? ⟨b,o+4,none⟩=some (.int .i64 1)
 c5:w.cell? ⟨b,o+5,none⟩=some (.int .i64 r.of_)
 c6:w.cell? ⟨b,o+6,none⟩=some (.slice p.at_ r.take.length p.ct)
 c7:w.cell? ⟨b,o+7,none⟩=some (.slice p.ag r.give.length p.cg)
 c8:w.cell? ⟨b,o+8,none⟩=some (.slice p.ab r.back.length p.cb)
theorem qDF.below{w w':World}{b o:Nat}{r:Rul}{p:Pl}{B:Nat}(h:qDF w b o r p)(hb:Below B w w')(hl:b<B):qDF w' b o r p:=
 ⟨(hb.cell (p:=⟨b,o,none⟩) hl).trans h.c0,(hb.cell (p:=⟨b,o+1,none⟩) hl).trans h.c1,(hb.cell (p:=⟨b,o+2,none⟩) hl).trans h.c2,(hb.cell (p:=⟨b,o+3,none⟩) hl).trans h.c3,(hb.cell (p:=⟨b,o+4,none⟩) hl).trans h.c4,(hb.cell (p:=⟨b,o+5,none⟩) hl).trans h.c5,(hb.cell (p:=⟨b,o+6,none⟩) hl).trans h.c6,(hb.cell (p:=⟨b,o+7,none⟩) hl).trans h.c7,(hb.cell (p:=⟨b,o+8,none⟩) hl).trans h.c8⟩
theorem qA1.at_{w:World}{v:Value}{l:List Rul}(h:qA1 w v l)(j:Nat)(hj:j<l.length):
 ∃b cap p,v=.slice (some ⟨b,0,none⟩) l.length cap/\b<w.heap.size/\qFf w l[j] p/\qDF w b (j*9) l[j] p:=by
 obtain⟨b,cap,cs,hv,hb,⟨vt,vg,vb,rfl,h1,h2,h3⟩,_,hc⟩:=qAb.at_ h j hj;obtain⟨at_,ct,rfl,ht⟩:=h1.form;obtain⟨ag,cg,rfl,hg⟩:=h2.form;obtain⟨ab,cb,rfl,hb2⟩:=h3.form;exact⟨b,cap,⟨at_,ct,ag,cg,ab,cb⟩,hv,hb,⟨h1,h2,h3,ht,hg,hb2⟩,⟨hc 0 (by omega),hc 1 (by omega),hc 2 (by omega),hc 3 (by omega),hc 4 (by omega),hc 5 (by omega),hc 6 (by omega),hc 7 (by omega),hc 8 (by omega)⟩⟩
structure qPx(w:World)(b o:Nat)(n:Tx):Prop where
 c0:w.cell? ⟨b,o,none⟩=some (.string ⟨n.toArray⟩)
 c1:w.cell? ⟨b,o+1,none⟩=some (.bool false)
 c2:w.cell? ⟨b,o+2,none⟩=some (.bool false)
 c3:w.cell? ⟨b,o+3,none⟩=some (.bool false)
 c4:w.cell? ⟨b,o+4,none⟩=some (.int .i64 0)
 c5:w.cell? ⟨b,o+5,none⟩=some (.int .i64 0)
 c6:w.cell? ⟨b,o+6,none⟩=some (.int .i64 0)
theorem qAL.at_{w:World}{v:Value}{l:List Tx}(h:qAL w v l)(j:Nat)(hj:j<l.length):
 ∃b cap,v=.slice (some ⟨b,0,none⟩) l.length cap/\b<w.heap.size/\qPx w b (j*7) l[j]:=by
 obtain⟨b,cap,cs,hv,hb,rfl,_,hc⟩:=qAb.at_ h j hj;exact⟨b,cap,hv,hb,⟨hc 0 (by omega),hc 1 (by omega),hc 2 (by omega),hc 3 (by omega),hc 4 (by omega),hc 5 (by omega),hc 6 (by omega)⟩⟩
structure qPz(w:World)(b o:Nat)(a:Amt):Prop where
 c0:w.cell? ⟨b,o,none⟩=some (.int .i64 a.item)
 c1:w.cell? ⟨b,o+1,none⟩=some (.int .i64 a.n)
theorem qAl.at2{w:World}{v:Value}{l:List Amt}(h:qAl w v l)(j:Nat)(hj:j<l.length):
 ∃b cap,v=.slice (some ⟨b,0,none⟩) l.length cap/\b<w.heap.size/\qPz w b (j*2) l[j]:=by
 obtain⟨b,cap,hv,hb,h1,h2⟩:=qAl.at_ h j hj;exact⟨b,cap,hv,hb,⟨h1,h2⟩⟩
theorem qDB(v:Value)(l:List Rul)(f:Nat)(lb:Array Value)(w:World)(h:qA1 w v l)(hl:l.length<=1000)
 (eg:∀args w,(callFunc f args).run Tryz.prog w=.ok (.enter f args) w)
 (hf:∀j (hj:j<l.length) p w',Below w.heap.size w w'->qFf w' l[j] p->Calls Tryz.prog f (#[qGu l[j] p]++lb) w' fun e w''=>e=.returned (.bool true)/\Below w'.heap.size w' w''):
 Calls Tryz.prog 70 #[v,.func (.func f) #[] lb] w fun e w'=>e=.returned (.bool true)/\Below w.heap.size w w':=by
 have HL:=hZ h;have HF:=hZ hf;obtain⟨a0,c0,rfl,h1,h2⟩:=h.form;clear h hf
 go_enter Tryz.func70,Tryz.ntmps70
 go_wp2_with fail
 go_loopw [9] (fun i wr=>∃j:Nat,j<=l.length/\i=.int .i64 j/\Hid (Below w.heap.size w wr)) (fun i _=>l.length-(intOf i).toNat)
 case atStart=>exact⟨0,by omega,rfl,hZ (Below.refl _ _)⟩
 case round=>
  obtain⟨j,hj,rfl,HB⟩:=hrel;by_cases hlt:j<l.length
  ·obtain⟨b,cap,p,hv,hb,hr,hc⟩:=qA1.at_ (HL.o.below HB.o) j hlt
   injection hv with e1 e2 e3;subst e1;clear e2 e3;obtain⟨c0,c1,c2,c3,c4,c5,c6,c7,c8⟩:=hc;have HR:=hZ hr;have HFj:=hZ (HF.o j hlt p);clear hr;unfold qGu at HFj;generalize l[j]=x at *
   go_wp2_with fail
   refine(HFj.o _ (HB.o.alloc HB.o.size _) (HR.o.below aR)).mono ?_;rintro e w5 ⟨rfl,hB5⟩;have HB5:=hZ ((HB.o.alloc HB.o.size _).trans (hB5.mono (by simp;have:=HB.o.size;omega)));clear hB5
   go_wp2_with fail
   go_roundw
   case rel=>exact⟨j+1,by omega,by go_num,HB5⟩
   case measure=>simp[intOf];omega
  ·go_wp2_with fail
   go_ret;exact⟨rfl,HB.o⟩
theorem qEO(v:Value)(l:List Tx)(f:Nat)(lb:Array Value)(w:World)(h:qAL w v l)(hl:l.length<=1000)
 (eg:∀args w,(callFunc f args).run Tryz.prog w=.ok (.enter f args) w)
 (hf:∀j (hj:j<l.length)  w',Below w.heap.size w w'->Calls Tryz.prog f (#[qLN l[j]]++lb) w' fun e w''=>e=.returned (.bool true)/\Below w'.heap.size w' w''):
 Calls Tryz.prog 76 #[v,.func (.func f) #[] lb] w fun e w'=>e=.returned (.bool true)/\Below w.heap.size w w':=by
 have HL:=hZ h;have HF:=hZ hf;obtain⟨a0,c0,rfl,h1,h2⟩:=h.form;clear h hf
 go_enter Tryz.func76,Tryz.ntmps76
 go_wp2_with fail
 go_loopw [9] (fun i wr=>∃j:Nat,j<=l.length/\i=.int .i64 j/\Hid (Below w.heap.size w wr)) (fun i _=>l.length-(intOf i).toNat)
 case atStart=>exact⟨0,by omega,rfl,hZ (Below.refl _ _)⟩
 case round=>
  obtain⟨j,hj,rfl,HB⟩:=hrel;by_cases hlt:j<l.length
  ·obtain⟨b,cap,hv,hb,hc⟩:=qAL.at_ (HL.o.below HB.o) j hlt
   injection hv with e1 e2 e3;subst e1;clear e2 e3;obtain⟨c0,c1,c2,c3,c4,c5,c6⟩:=hc
   skip
   have HFj:=hZ (HF.o j hlt)
   skip
   unfold qLN at HFj;generalize l[j]=x at *
   go_wp2_with fail
   refine(HFj.o _ (HB.o.alloc HB.o.size _)).mono ?_;rintro e w5 ⟨rfl,hB5⟩;have HB5:=hZ ((HB.o.alloc HB.o.size _).trans (hB5.mono (by simp;have:=HB.o.size;omega)));clear hB5
   go_wp2_with fail
   go_roundw
   case rel=>exact⟨j+1,by omega,by go_num,HB5⟩
   case measure=>simp[intOf];omega
  ·go_wp2_with fail
   go_ret;exact⟨rfl,HB.o⟩
theorem qNG(v:Value)(l:List Amt)(f:Nat)(lb:Array Value)(w:World)(h:qAl w v l)(hl:l.length<=1000)
 (eg:∀args w,(callFunc f args).run Tryz.prog w=.ok (.enter f args) w)
 (hf:∀j (hj:j<l.length)  w',Below w.heap.size w w'->Calls Tryz.prog f (#[qR0 l[j]]++lb) w' fun e w''=>e=.returned (.bool true)/\Below w'.heap.size w' w''):
 Calls Tryz.prog 100 #[v,.func (.func f) #[] lb] w fun e w'=>e=.returned (.bool true)/\Below w.heap.size w w':=by
 have HL:=hZ h;have HF:=hZ hf;obtain⟨a0,c0,rfl,h1,h2⟩:=h.form;clear h hf
 go_enter Tryz.func100,Tryz.ntmps100
 go_wp2_with fail
 go_loopw [9] (fun i wr=>∃j:Nat,j<=l.length/\i=.int .i64 j/\Hid (Below w.heap.size w wr)) (fun i _=>l.length-(intOf i).toNat)
 case atStart=>exact⟨0,by omega,rfl,hZ (Below.refl _ _)⟩
 case round=>
  obtain⟨j,hj,rfl,HB⟩:=hrel;by_cases hlt:j<l.length
  ·obtain⟨b,cap,hv,hb,hc⟩:=qAl.at2 (HL.o.below HB.o) j hlt
   injection hv with e1 e2 e3;subst e1;clear e2 e3;obtain⟨c0,c1⟩:=hc
   skip
   have HFj:=hZ (HF.o j hlt)
   skip
   unfold qR0 at HFj;generalize l[j]=x at *
   go_wp2_with fail
   refine(HFj.o _ (HB.o.alloc HB.o.size _)).mono ?_;rintro e w5 ⟨rfl,hB5⟩;have HB5:=hZ ((HB.o.alloc HB.o.size _).trans (hB5.mono (by simp;have:=HB.o.size;omega)));clear hB5
   go_wp2_with fail
   go_roundw
   case rel=>exact⟨j+1,by omega,by go_num,HB5⟩
   case measure=>simp[intOf];omega
  ·go_wp2_with fail
   go_ret;exact⟨rfl,HB.o⟩
theorem qCQ(f:Value)(w:World):Calls Tryz.prog 72 #[.slice none 0 0,f] w fun e w'=>e=.returned (.bool true)/\w=w':=by
 go_enter Tryz.func72,Tryz.ntmps72
 go_wp2_with fail
 refine wp_loop_rounds 1 ?_;rw[rounds_succ]
 go_wp2_with fail
 go_ret;exact⟨rfl,rfl⟩
theorem qEl(f:Value)(w:World):Calls Tryz.prog 74 #[.slice none 0 0,f] w fun e w'=>e=.returned (.bool true)/\w=w':=by
 go_enter Tryz.func74,Tryz.ntmps74
 go_wp2_with fail
 refine wp_loop_rounds 1 ?_;rw[rounds_succ]
 go_wp2_with fail
 go_ret;exact⟨rfl,rfl⟩
end Go.Proofs.YtkjhlkngihponaaGreatDoor
