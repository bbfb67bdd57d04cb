/- The reducing of the triangular basis, over lists; plain Lean. -/
import Derived.Test.YtkjhlkngihponaaGreatDoorQKRegFree
import Derived.Test.YtkjhlkngihponaaGreatDoorQKLSmall
set_option linter.unusedVariables false
set_option linter.unusedSimpArgs false
set_option maxHeartbeats 16000000
set_option maxRecDepth 100000
namespace Go.Proofs.YtkjhlkngihponaaGreatDoor
open Go.RowKit
def qRd(ga:Nat)(l:List Rw)(b:Nat):Prop:=b=ga\/ ∃i,∃h:i<l.length,b=l[i].1
theorem qGA{m z:Int}(sm:Sz 4000 m)(h:0<=z/\z<=m):Sz 4000 z:=sm.of_le (by omega)
theorem qLO(w0:World)(R ga n cR c2:Nat)(l:List Rw)(sq:List (List Int))(as0:List Int)(vm:Value)(m:Int)(h:qCX w0 R l n sq)(hln:l.length=n)(ha:qAC w0 ga as0)(hal:as0.length=n)(hn:n<=1000)(hcR:n<=cR)(hcR2:cR<=9223372036854775807)(hc2:n<=c2)(hc2':c2<=9223372036854775807)
 (hvm:qAr w0 vm m)(hm0:0<m)(sm:Sz 4000 m)(ht:qH0 m n 0 (sq.map vec))(hb:∀r∈sq,Bd m r)(hba:Bd m as0)(hne:ga≠R/\∀i (h:i<l.length),l[i].1≠ga):
 Calls Tryz.prog 184 #[.slice (some ⟨R,0,none⟩) n cR,.slice (some ⟨ga,0,none⟩) n c2,vm] w0 fun e w'=>(∃v,e=.returned v)/\∃sq',Ins m n 0 (sq.map vec) (vec as0) (sq'.map vec)/\qCX w' R l n sq'/\(∀r∈sq',Bd m r)/\qAc (qRd ga l) w0 w':=by
 obtain⟨s_m,a_m,n_m,c_m,rfl⟩:=hvm.form4;have Vm:=hZ hvm;have RS:=hZ h;have Ra:=hZ ha;have HO:=hZ (qAc.refl (qRd ga l) w0);have HI:=hZ (qL7.start (n:=n) hb hba hal);have HT:=hZ ht;have Sm:=hZ sm;have Hsl:Hid (sq.length=n):=hZ (by have:=h.len;omega);have HW:Hid (ga<w0.heap.size/\R<w0.heap.size/\∀i (hi:i<l.length),l[i].1<w0.heap.size):=hZ ⟨ha.lt,h.lt,h.rows.lt⟩;have Hne:=hZ hne;have Hln:=hZ hln;clear h ha hvm ht hb hba sm hne hal hln;obtain⟨w1,hw1⟩:=eX (w0.alloc (.cells #[.slice (some ⟨ga,0,none⟩) n c2] 77));have hB:Below w0.heap.size w0 w1:=by rw[<-hw1];exact aR
 obtain⟨ba,hb1⟩:=eX w0.heap.size;have Oa':Hid (One w1 ba 77 (.slice (some ⟨ga,0,none⟩) n c2)):=hZ (by rw[<-hw1,<-hb1];exact One.new _ _ _);have Hba:Hid (w0.heap.size<=ba):=hZ (by omega);replace Vm:=Vm.b hB;replace RS:=RS.b hB;replace Ra:=Ra.b hB;replace HO:=HO.b hB;clear hB;have Oa:=Oa';clear Oa';have hlb:=Oa.o.lt;obtain⟨w2,hw⟩:=eX ((w1.alloc (.cells #[.bool s_m,.slice a_m n_m c_m] 73)));have hB:=aB hw;obtain⟨bm,hb_bm⟩:=eX w1.heap.size;have h9:=Bx.new (w:=w1) Vm.o;rw[hw,hb_bm]at h9;have Fm':=hZ h9;have hge_bm:w1.heap.size<=bm:=by omega
 clear h9;replace Vm:=Vm.b hB;replace RS:=RS.b hB;replace Ra:=Ra.b hB;replace Oa:=Oa.b hB;replace HO:=HO.b hB;have Fm:=Fm';clear Fm';clear hB;have Hbm:Hid (ba<bm):=hZ (by omega);clear hlb hge_bm
 go_enter Tryz.func184,Tryz.ntmps184
 go_wp2_with fail
 clear hw hw1 hb1 hb_bm;clear Vm
 go_loopw [23] (fun i wr=>∃(j:Nat) (sq1:List (List Int)) (as1:List Int),j<=n/\i=.int .i64 j/\Hid (qL7 m n sq as0 j sq1 as1)/\Hid (qCX wr R l n sq1)/\Hid (qAC wr ga as1)/\Hid (One wr ba 77 (.slice (some ⟨ga,0,none⟩) n c2))/\Hid (Bx wr bm m)/\Hid (qAc (qRd ga l) w0 wr)) (fun i _=>n-(intOf i).toNat)
 case atStart=>exact⟨0,sq,as0,by omega,rfl,HI,RS,Ra,Oa,Fm,HO⟩
 case round=>
  clear HI RS Ra Oa Fm HO;obtain⟨j,sq1,as1,hj,rfl,HI,RS,Ra,Oa,Fm,HO⟩:=hrel;obtain⟨w2,rfl⟩:=eY wr;by_cases hlt:j<n
  ·as_aux_lemma=>
   have i1:(0:Int)<=(j:Int):=by omega
   have i2:(j:Int)<(n:Int):=by omega
   have hjl:j<l.length:=by rw[Hln.o];exact hlt
   have hjs:j<sq1.length:=by rw[RS.o.len];exact hjl
   have hjs0:j<sq.length:=by have:=HI.o.len;omega
   obtain⟨row,hrow⟩:=eX (sq1[j]);have HRow:=hZ hrow;obtain⟨hr1,hr2⟩:=RS.o.rows.row j hjl;rw[hrow]at hr1 hr2;obtain⟨t1,t2,-⟩:=HT.o.at_ j (by simpa using hjs0);rw[List.getElem_map,<-HI.o.rest j hjs hjs0 (Nat.le_refl _),hrow,Nat.zero_add]at t1 t2;have HR0:=hZ t1;have HP:=hZ t2;have Hrl:=hZ hr2;have Hal:=hZ HI.o.alen;have Hjr:Hid (j<row.length):=hZ (by omega);have Hja:Hid (j<as1.length):=hZ (by have:=Hal.o;omega);obtain⟨g,hg⟩:=eX (l[j].1);obtain⟨c1,hc1⟩:=eX (l[j].2);have x0:=RS.o.get j hjl;rw[hg,hc1]at x0;rw[hg]at hr1;have hcc:=RS.o.rows.cap j hjl;rw[hc1]at hcc;obtain⟨hc1a,hc1b⟩:=hcc;have HG:=hZ hg;clear hg hc1 hr2 t1 t2 hrow hr1;have HWg:Hid (g<w0.heap.size/\g≠ga/\R≠g):=hZ (by rw[<-HG.o];exact⟨HW.o.2.2 j hjl,Hne.o.2 j hjl,fun e=>RS.o.apart j hjl e.symm⟩);have HBr1:Hid (Bd m row):=hZ (HRow.o▸HI.o.bd _ (List.getElem_mem _));have hlm:=Fm.o.lt;obtain⟨w3,hw⟩:=eX (w2.alloc (.cells #[.slice (some ⟨g,0,none⟩) n c1] 77));have hB:=aB hw;obtain⟨br,hb1⟩:=eX w2.heap.size;have Oq':Hid (One w3 br 77 (.slice (some ⟨g,0,none⟩) n c1)):=hZ (by rw[<-hw,<-hb1];exact One.new _ _ _);have Hbr:Hid (bm<br):=hZ (by omega);clear hlm;replace RS:=RS.b hB;replace Ra:=Ra.b hB;replace Oa:=Oa.b hB;replace Fm:=Fm.b hB;replace HO:=HO.b hB;clear hB;have Oq:=Oq';clear Oq';have doa:=Oa.o.cell;obtain⟨s_y,a_y,n_y,c_y,d0y,d1y,h_y⟩:=Ra.o.get j Hja.o;obtain⟨y,hy⟩:=eX (as1[j]'Hja.o);rw[hy]at h_y;have Vy:=hZ h_y;have Hy:=hZ hy;have HBy:Hid (0<=y/\y<=m):=hZ (hy▸HI.o.bda _ (List.getElem_mem _));have Sy:Hid (Sz 4000 y):=hZ (qGA Sm.o HBy.o);clear h_y hy
   go_wp2_with fail
   clear hw hb1 x0 d0y d1y;by_cases hy0:y=0
   ·as_aux_lemma=>
    refine(qAE (w:=w3) Vy.o Sy.o (by omega)).mono ?_;rintro e w4 ⟨he,hB⟩;rw[show qAV y 0=0 by rw[hy0];exact qA7 0]at he;subst he;replace RS:=RS.b hB;replace Ra:=Ra.b hB;replace Oa:=Oa.b hB;replace Fm:=Fm.b hB;replace Oq:=Oq.b hB;replace Vy:=Vy.b hB;replace HO:=HO.b hB;clear hB
    go_wp2_with fail
    have HV:vec as1 j=0:=by rw[qAp Hja.o,Hy.o];exact hy0
    go_roundw
    case rel=>exact⟨j+1,sq1,as1,by omega,by go_num,hZ (HI.o.same hjs (by rw[HRow.o];exact qOZ HR0.o HP.o (fun k hk=>by rcases Nat.lt_or_ge k j with h|h;exact HI.o.low k h;rw[show k=j by omega];exact HV) Hrl.o Hal.o hlt) HV),RS,Ra,Oa,Fm,HO⟩
    case measure=>simp[intOf];omega
   ·as_aux_lemma=>
    refine(qAE (w:=w3) Vy.o Sy.o (by omega)).mono ?_;rintro e w4 ⟨he,hB⟩;obtain⟨sgy,hs9,q0y,q1y⟩:=qBn (x:=y) hy0;rw[hs9]at he;subst he;clear hs9;replace RS:=RS.b hB;replace Ra:=Ra.b hB;replace Oa:=Oa.b hB;replace Fm:=Fm.b hB;replace Oq:=Oq.b hB;replace Vy:=Vy.b hB;replace HO:=HO.b hB;clear hB
    go_wp2_with fail
    clear Vy;clear q0y q1y doa;have Rr:Hid (qAC w4 g row):=hZ (by have h1:=(RS.o.rows.row j hjl).1;rw[HG.o,HRow.o]at h1;exact h1);have RX:=hZ (RS.o.x j);clear RS;obtain⟨x,hx⟩:=eX (row[j]'Hjr.o);have Hx:=hZ hx;have HBx:Hid (0<=x/\x<=m):=hZ (hx▸HBr1.o _ (List.getElem_mem _));have Sx:Hid (Sz 4000 x):=hZ (qGA Sm.o HBx.o);have hx0:0<x:=by have h1:=HP.o;rw[qAp Hjr.o,hx]at h1;exact h1
    have hyp:0<y:=by have:=HBy.o;omega
    clear hx;have hlr:=Oq.o.lt;refine qEw (fun t ds a w'=>∃v34 v35 v36 v37 v38 v39 v40 v41 b8 b9,a=⟨((((((((((t).setIfInBounds 8 (.pointer (some ⟨b8,0,none⟩))).setIfInBounds 9 (.pointer (some ⟨b9,0,none⟩))).setIfInBounds 34 v34).setIfInBounds 35 v35).setIfInBounds 36 v36).setIfInBounds 37 v37).setIfInBounds 38 v38).setIfInBounds 39 v39).setIfInBounds 40 v40).setIfInBounds 41 v41,ds⟩/\Hid (Bx w' b8 x)/\Hid (Bx w' b9 y)/\Hid (Below w4.heap.size w4 w')/\Hid (b8≠b9/\w4.heap.size<=b8/\w4.heap.size<=b9)) ?_ ?_
    ·as_aux_lemma=>
     have HJ:=hZ (Below.refl w4.heap.size w4);obtain⟨w5,hwd⟩:=eX w4.drew;have hB:=dB hwd;replace Rr:=Rr.b hB;replace Ra:=Ra.b hB;replace Oq:=Oq.b hB;replace Oa:=Oa.b hB;replace HJ:=bT HJ hB;clear hB;have HBr:Hid (qAc (fun b=>w5.heap.size<=b) w5 w5):=hZ (qAc.refl _ _);refine qAU [11] (fun w'=>qAc (fun b=>w5.heap.size<=b) w5 w') (by kernel_rfl) (by rw[hwd];exact qAc.refl _ _) (fun hHeld=> ?_);rw[hwd]at hHeld ⊢;clear hwd;obtain⟨s_x,a_x,n_x,c_x,d0x,d1x,h_x⟩:=Rr.o.get j Hjr.o;rw[Hx.o]at h_x;have Vx:=hZ h_x;clear h_x;obtain⟨s_y,a_y,n_y,c_y,d0y,d1y,h_y⟩:=Ra.o.get j Hja.o;rw[Hy.o]at h_y;have Vy:=hZ h_y;clear h_y;have dor:=Oq.o.cell;have doa:=Oa.o.cell;refine tU 0 34 (cT (Nat.not_le_of_lt Oq.o.lt) dor Oq.o.lt) ?_;refine pU 1 35 ?_;refine pU 2 36 ?_;refine tV 3 37 (cT (Nat.not_le_of_lt Rr.o.lt) d0x Rr.o.lt) (cT (Nat.not_le_of_lt Rr.o.lt) d1x Rr.o.lt) ?_;refine tU 4 38 (cT (Nat.not_le_of_lt Oa.o.lt) doa Oa.o.lt) ?_;refine pU 5 39 ?_;refine pU 6 40 ?_;refine tV 7 41 (cT (Nat.not_le_of_lt Ra.o.lt) d0y Ra.o.lt) (cT (Nat.not_le_of_lt Ra.o.lt) d1y Ra.o.lt) ?_;clear dor doa d0x d1x d0y d1y;clear Rr Ra Oq Oa;have HJs:Hid (w4.heap.size<=w5.heap.size):=hZ HJ.o.size;refine qQF [8,9] [] 2 (fun t ds p a w=>∃v8 v9 b8 b9,a=⟨((t).setIfInBounds 8 v8).setIfInBounds 9 v9,ds⟩/\Hid (Below w5.heap.size w5 w)/\(p 8=true->v8=.pointer (some ⟨b8,0,none⟩)/\Hid (Bx w b8 0)/\Hid (w5.heap.size<=b8))/\(p 9=true->v9=.pointer (some ⟨b9,0,none⟩)/\Hid (Bx w b9 0)/\Hid (w5.heap.size<=b9))/\(p 8=true->p 9=true->b8≠b9)) ?_ (by kernel_rfl) (by decide) rfl rfl ⟨?_,?_,trivial⟩ ?_
     ·exact⟨_,_,0,0,by first|rfl|(simp only[sX1,sX2,sX3];rfl),hZ (Below.refl _ _),nofun,nofun,nofun⟩
     ·as_aux_lemma=>
      intro p a w6 hJ hp;obtain⟨v8,v9,b8,b9,rfl,HBw,g8,g9,n89⟩:=hJ;simp only[sX1,sX2,sX3];refine qCO 8 rfl (fun K hK=> ?_);go_simp;obtain⟨w7,hw⟩:=eX (w6.alloc (.cells #[.bool false,.slice none 0 0] 73));have hB:=aB hw;have hx:Hid (Bx w7 w6.heap.size 0):=hZ (by rw[<-hw];exact Bx.new (qAJ _));rw[hw];clear hw;exact hK.out _ _ (HBr.o.trans (qAc.of_below (HBw.o.trans (hB.mono HBw.o.size)))) ⟨_,v9,w6.heap.size,b9,by first|(simp only[Act.put];done)|(simp only[sX1,sX2,sX3];rfl),hZ (HBw.o.trans (hB.mono HBw.o.size)),fun _=>⟨rfl,hx,hZ HBw.o.size⟩,fun h=>⟨(g9 h).1,hZ ((g9 h).2.1.o.blw hB),(g9 h).2.2⟩,fun _ h=>by have:=(g9 h).2.1.o.lt;omega⟩
     ·as_aux_lemma=>
      intro p a w6 hJ hp;obtain⟨v8,v9,b8,b9,rfl,HBw,g8,g9,n89⟩:=hJ;simp only[sX1,sX2,sX3];refine qCO 9 rfl (fun K hK=> ?_);go_simp;obtain⟨w7,hw⟩:=eX (w6.alloc (.cells #[.bool false,.slice none 0 0] 73));have hB:=aB hw;have hx:Hid (Bx w7 w6.heap.size 0):=hZ (by rw[<-hw];exact Bx.new (qAJ _));rw[hw];clear hw;exact hK.out _ _ (HBr.o.trans (qAc.of_below (HBw.o.trans (hB.mono HBw.o.size)))) ⟨v8,_,b8,w6.heap.size,by first|(simp only[Act.put];done)|(simp only[sX1,sX2,sX3];rfl),hZ (HBw.o.trans (hB.mono HBw.o.size)),fun h=>⟨(g8 h).1,hZ ((g8 h).2.1.o.blw hB),(g8 h).2.2⟩,fun _=>⟨rfl,hx,hZ HBw.o.size⟩,fun h _=>by have:=(g8 h).2.1.o.lt;omega⟩
     ·as_aux_lemma=>
      intro p a w6 hJ hp;obtain⟨v8,v9,b8,b9,rfl,HBw,g8,g9,n89⟩:=hJ;obtain⟨rfl,Fh,hge_b8⟩:=g8 (hp 8 (by simp));replace hge_b8:w5.heap.size<=b8:=Nat.le_trans HBr.o.size hge_b8.o;obtain⟨rfl,Fo,hge_b9⟩:=g9 (hp 9 (by simp));replace hge_b9:w5.heap.size<=b9:=Nat.le_trans HBr.o.size hge_b9.o;replace n89:=n89 (hp 8 (by simp)) (hp 9 (by simp))
      skip
      replace HBr:=hZ (HBr.o.trans (qAc.of_below HBw.o));have hB:=HBw.o;simp only[sX1,sX2,sX3];clear HBw;replace Vx:=Vx.b hB;replace Vy:=Vy.b hB;replace HJ:=bT HJ hB;clear hB;obtain⟨s_9,a_9,n_9,c_9,t_9,-⟩:=Fh.o;have e0:=t_9.cell0;have e1:=t_9.cell1;have e2:=t_9.frozen 0;have e3:=t_9.frozen 1;clear t_9;have hn9:qAi w6 (b8):=Fh.o.noInt;obtain⟨w7,hw⟩:=eX ((w6.setCell ⟨b8,0,none⟩ (.bool s_x)).setCell ⟨b8,1,none⟩ (.slice a_x n_x c_x));have hw2:st2 w6 (b8) (0) (1) s_x a_x n_x c_x=w7:=hw;replace Fh:=hZ (Bx.put Fh.o Vx.o);rw[hw2]at Fh;replace Vx:=hZ (Vx.o.offe hw2 hn9);replace Vy:=hZ (Vy.o.offe hw2 hn9);replace Fo:=hZ (Fo.o.offe hw2 hn9 (by omega));replace HJ:=hZ (bO hw2 HJ.o (by have:=HJs.o;omega));clear hw2 hn9;replace HBr:=hZ (HBr.o.offs hw hge_b8);refine eU 10 fun K hK=> ?_;go_simp
      try rw[hw]
      refine hK.out _ _ HBr.o (fun hHeld=> ?_);clear hK K
      try simp only[Act.put,sX1,sX2,sX3]
      clear hw e0 e1 e2 e3;obtain⟨s_9,a_9,n_9,c_9,t_9,-⟩:=Fo.o;have e0:=t_9.cell0;have e1:=t_9.cell1;have e2:=t_9.frozen 0;have e3:=t_9.frozen 1;clear t_9;have hn9:qAi w7 (b9):=Fo.o.noInt;obtain⟨w8,hw⟩:=eX ((w7.setCell ⟨b9,0,none⟩ (.bool s_y)).setCell ⟨b9,1,none⟩ (.slice a_y n_y c_y));have hw2:st2 w7 (b9) (0) (1) s_y a_y n_y c_y=w8:=hw;replace Fo:=hZ (Bx.put Fo.o Vy.o);rw[hw2]at Fo;replace Vx:=hZ (Vx.o.offe hw2 hn9);replace Vy:=hZ (Vy.o.offe hw2 hn9);replace Fh:=hZ (Fh.o.offe hw2 hn9 (by omega));replace HJ:=hZ (bO hw2 HJ.o (by have:=HJs.o;omega));clear hw2 hn9;refine lU 11 fun K hK=> ?_;go_simp
      try rw[hw]
      refine hK.out _ _ ?_;clear hK K
      try simp only[Act.put,sX1,sX2,sX3]
      clear hw e0 e1 e2 e3;refine dU ?_;clear hHeld;refine qA0 ⟨_,_,_,_,_,_,_,_,_,_,by first|rfl|(simp only[sX1,sX2,sX3];rfl),Fh,Fo,HJ,hZ (by have:=HJs.o;omega)⟩
    ·as_aux_lemma=>
     rintro a w5 ⟨v34,v35,v36,v37,v38,v39,v40,v41,b8,b9,rfl,Fh,Fo,HJ,Hxy⟩;simp only[sX1,sX2,sX3];have hB:=HJ.o;clear HJ;replace Ra:=Ra.b hB;replace Oa:=Oa.b hB;replace Fm:=Fm.b hB;replace Oq:=Oq.b hB;replace RX:=RX.b hB;replace Rr:=Rr.b hB;replace HO:=HO.b hB;clear hB;have Hb8:Hid (br<b8/\br<b9/\b8≠b9):=hZ (by have:=Hxy.o;omega);clear Hxy hlr;obtain⟨s_o,a_o,n_o,c_o,t_o,h_o⟩:=Fo.o;have d0o:=t_o.cell0;have d1o:=t_o.cell1;have Vo:=hZ h_o;clear t_o h_o;obtain⟨s_h,a_h,n_h,c_h,t_h,h_h⟩:=Fh.o;have d0h:=t_h.cell0;have d1h:=t_h.cell1;have Vh:=hZ h_h;clear t_h h_h
     go_wp2_with fail
     clear d0o d1o d0h d1h;refine(qRK (w:=w5) Vo.o Vh.o Sy.o Sx.o (by omega) (by omega) (by omega)).mono ?_;rintro e w6 ⟨s_q,a_q,n_q,c_q,s_r,a_r,n_r,c_r,rfl,h_q,h_r,hB⟩;have Vq:=hZ h_q;have Vr:=hZ h_r;replace Ra:=Ra.b hB;replace Oa:=Oa.b hB;replace Fm:=Fm.b hB;replace Oq:=Oq.b hB;replace RX:=RX.b hB;replace Rr:=Rr.b hB;replace Fh:=Fh.b hB;replace Fo:=Fo.b hB;replace Vo:=Vo.b hB;replace Vh:=Vh.b hB;replace HO:=HO.b hB;clear hB;clear h_q h_r;clear Vo Vh;obtain⟨qq,hqq⟩:=eX (y/x);obtain⟨rr,hrr⟩:=eX (y%x);rw[hqq]at Vq;rw[hrr]at Vr;have Hqq:=hZ hqq;have Hrr:=hZ hrr;have Sq:Hid (Sz 4001 qq):=hZ (hqq▸Sy.o.div (by omega));have Sr:Hid (Sz 4000 rr):=hZ (hrr▸Sx.o.mod (by omega));have hdm:y=qq*x+rr:=by have:=Int.emod_add_mul_ediv y x;rw[hqq,hrr,Int.mul_comm]at this;omega
     clear hqq hrr;have hl8:=Fh.o.lt;have hl9:=Fo.o.lt;obtain⟨w7,hw⟩:=eX (((w6.alloc (.cells #[.bool s_q,.slice a_q n_q c_q] 73)).alloc (.cells #[.bool s_r,.slice a_r n_r c_r] 73)));have hB:Below w6.heap.size w6 w7:=by rw[<-hw];exact aR.alloc (by simp) _
     obtain⟨b10,hb_b10⟩:=eX w6.heap.size;have h9:=Bx.blw (Bx.new (w:=w6) Vq.o) ((Below.refl _ _).alloc (Nat.le_refl _) (.cells #[.bool s_r,.slice a_r n_r c_r] 73));rw[hw,hb_b10]at h9;have Fq':=hZ h9;have hge_b10:w6.heap.size<=b10:=by omega
     clear h9;obtain⟨b11,hb_b11⟩:=eX (w6.heap.size+1);have h9:=Bx.new (w:=(w6.alloc (.cells #[.bool s_q,.slice a_q n_q c_q] 73))) (Vr.o.blw aR);rw[World.size_alloc]at h9;rw[hw,hb_b11]at h9;have Fr':=hZ h9;have hge_b11:w6.heap.size<=b11:=by omega
     clear h9;replace Ra:=Ra.b hB;replace Oa:=Oa.b hB;replace Fm:=Fm.b hB;replace Oq:=Oq.b hB;replace RX:=RX.b hB;replace Rr:=Rr.b hB;replace Fh:=Fh.b hB;replace Fo:=Fo.b hB;replace Vq:=Vq.b hB;replace Vr:=Vr.b hB;replace HO:=HO.b hB;have Fq:=Fq';clear Fq';have Fr:=Fr';clear Fr';clear hB;have Hb10:Hid (br<b10/\br<b11/\b10<b11/\b8<b10/\b9<b10):=hZ (by have:=Hb8.o;omega);clear hl8 hl9 hge_b10 hge_b11;obtain rfl:b11=b10+1:=by omega
     clear hb_b11;obtain⟨s_t,a_t,n_t,c_t,t_t,h_t⟩:=Fr.o;have d0t:=t_t.cell0;have d1t:=t_t.cell1;have Vt:=hZ h_t;clear t_t h_t
     go_wp2_with fail
     clear hw hb_b10;clear d0t d1t;clear Vq Vr;by_cases hr0:rr=0
     ·as_aux_lemma=>
      refine(qAE (w:=w7) Vt.o Sr.o (by omega)).mono ?_;rintro e w8 ⟨he,hB⟩;rw[show qAV rr 0=0 by rw[hr0];exact qA7 0]at he;subst he;replace Ra:=Ra.b hB;replace Oa:=Oa.b hB;replace Fm:=Fm.b hB;replace Oq:=Oq.b hB;replace RX:=RX.b hB;replace Rr:=Rr.b hB;replace Fh:=Fh.b hB;replace Fo:=Fo.b hB;replace Fq:=Fq.b hB;replace Fr:=Fr.b hB;replace Vt:=Vt.b hB;replace HO:=HO.b hB;clear hB;clear Vt
      go_wp2_with fail
      have HV:vec as1 j=qq*vec row j:=by rw[qAp Hja.o,qAp Hjr.o,Hy.o,Hx.o];omega
      have HVq:=hZ HV;clear HV;have HD:=hZ (qFh.start (m:=m) (q:=qq) (j:=j) (row:=row) Hal.o HI.o.bda)
      go_loopw [14] (fun i wr=>∃(k:Nat) (as2:List Int),j+1<=k/\k<=n/\i=.int .i64 k/\Hid (qFh m qq n j k row as1 as2)/\Hid (qAC wr ga as2)/\Hid (One wr ba 77 (.slice (some ⟨ga,0,none⟩) n c2))/\Hid (Bx wr bm m)/\Hid (RwX wr R l n sq1 j)/\Hid (qAC wr g row)/\Hid (One wr br 77 (.slice (some ⟨g,0,none⟩) n c1))/\Hid (Bx wr b10 qq)/\Hid (qAc (qRd ga l) w0 wr)) (fun i _=>n-(intOf i).toNat)
      case atStart=>exact⟨j+1,as1,by omega,by omega,by go_num,HD,Ra,Oa,Fm,RX,Rr,Oq,Fq,HO⟩
      case round=>
       clear HD Ra Oa Fm RX Rr Oq Fq Fr Fh Fo HO;obtain⟨k,as2,hjk,hk,rfl,HD,Ra,Oa,Fm,RX,Rr,Oq,Fq,HO⟩:=hrel;obtain⟨w8,rfl⟩:=eY wr;by_cases hkl:k<n
       ·as_aux_lemma=>
        have j1:(0:Int)<=(k:Int):=by omega
        have j2:(k:Int)<(n:Int):=by omega
        have Hkr:Hid (k<row.length):=hZ (by have:=Hrl.o;omega);have Hka:Hid (k<as2.length):=hZ (by rw[HD.o.len];exact hkl);have dor:=Oq.o.cell;obtain⟨s_u,a_u,n_u,c_u,d0u,d1u,h_u⟩:=Rr.o.get k Hkr.o;obtain⟨uz,huz⟩:=eX (row[k]'Hkr.o);rw[huz]at h_u;have Vu:=hZ h_u;have Huz:=hZ huz;clear h_u huz;have Su:Hid (Sz 4000 uz):=hZ (qGA Sm.o (Huz.o▸HBr1.o _ (List.getElem_mem _)))
        go_wp2_with fail
        clear dor d0u d1u;by_cases hu0:uz=0
        ·as_aux_lemma=>
         refine(qAE (w:=w8) Vu.o Su.o (by omega)).mono ?_;rintro e w9 ⟨he,hB⟩;rw[show qAV uz 0=0 by rw[hu0];exact qA7 0]at he;subst he;replace Ra:=Ra.b hB;replace Oa:=Oa.b hB;replace Fm:=Fm.b hB;replace RX:=RX.b hB;replace Rr:=Rr.b hB;replace Oq:=Oq.b hB;replace Fq:=Fq.b hB;replace Vu:=Vu.b hB;replace HO:=HO.b hB;clear hB
         go_wp2_with fail
         go_roundw
         case rel=>exact⟨k+1,as2,by omega,by omega,by go_num,hZ (HD.o.skip (by rw[qAp Hkr.o,Huz.o];exact hu0)),Ra,Oa,Fm,RX,Rr,Oq,Fq,HO⟩
         case measure=>simp[intOf];omega
        ·as_aux_lemma=>
         refine(qAE (w:=w8) Vu.o Su.o (by omega)).mono ?_;rintro e w9 ⟨he,hB⟩;obtain⟨sgu,hs9,q0u,q1u⟩:=qBn (x:=uz) hu0;rw[hs9]at he;subst he;clear hs9;replace Ra:=Ra.b hB;replace Oa:=Oa.b hB;replace Fm:=Fm.b hB;replace RX:=RX.b hB;replace Rr:=Rr.b hB;replace Oq:=Oq.b hB;replace Fq:=Fq.b hB;replace Vu:=Vu.b hB;replace HO:=HO.b hB;clear hB
         go_wp2_with fail
         clear Vu;clear q0u q1u;obtain⟨w10,hwd⟩:=eX w9.drew;have hB:=dB hwd;replace Ra:=Ra.b hB;replace Oa:=Oa.b hB;replace Fm:=Fm.b hB;replace RX:=RX.b hB;replace Rr:=Rr.b hB;replace Oq:=Oq.b hB;replace Fq:=Fq.b hB;replace HO:=HO.b hB;clear hB;have HBr:Hid (qAc (fun b=>False) w10 w10):=hZ (qAc.refl _ _);refine qAU [16] (fun w'=>qAc (fun b=>False) w10 w') (by kernel_rfl) (by rw[hwd];exact qAc.refl _ _) (fun hHeld=> ?_);rw[hwd]at hHeld ⊢;clear hwd;have dor:=Oq.o.cell;have doa:=Oa.o.cell;obtain⟨s_q,a_q,n_q,c_q,t_q,h_q⟩:=Fq.o;have d0q:=t_q.cell0;have d1q:=t_q.cell1;have Vq:=hZ h_q;clear t_q h_q;obtain⟨s_m,a_m,n_m,c_m,t_m,h_m⟩:=Fm.o;have d0m:=t_m.cell0;have d1m:=t_m.cell1;have Vm:=hZ h_m;clear t_m h_m;obtain⟨s_u,a_u,n_u,c_u,d0u,d1u,h_u⟩:=Rr.o.get k Hkr.o;rw[Huz.o]at h_u;have Vu:=hZ h_u;clear h_u;obtain⟨s_p,a_p,n_p,c_p,d0p,d1p,h_p⟩:=Ra.o.get k Hka.o;obtain⟨pz,hpz⟩:=eX (as2[k]'Hka.o);rw[hpz]at h_p;have Vp:=hZ h_p;have Hpz:=hZ hpz;clear h_p hpz;have Sp:Hid (Sz 4000 pz):=hZ (qGA Sm.o (Hpz.o▸HD.o.bd _ (List.getElem_mem _)));refine tU 0 67 (cF doa Oa.o.lt) ?_;refine pU 1 68 ?_;refine tU 2 69 (cF doa Oa.o.lt) ?_;refine pU 3 70 ?_;refine pU 4 71 ?_;refine tV 5 72 (cF d0p Ra.o.lt) (cF d1p Ra.o.lt) ?_;refine tV 6 73 (cF d0q Fq.o.lt) (cF d1q Fq.o.lt) ?_;refine tU 7 74 (cF dor Oq.o.lt) ?_;refine pU 8 75 ?_;refine pU 9 76 ?_;refine tV 10 77 (cF d0u Rr.o.lt) (cF d1u Rr.o.lt) ?_;refine tV 13 80 (cF d0m Fm.o.lt) (cF d1m Fm.o.lt) ?_;clear d0q d1q d0m d1m d0u d1u d0p d1p;clear dor doa;refine eU 11 fun K hK=> ?_;go_simp;refine(qBH (w:=w10) Vq.o Vu.o Sq.o Su.o (by omega)).mono ?_;rintro e w11 ⟨s_s,a_s,n_s,c_s,rfl,h_s,hB⟩;have Vs:=hZ h_s;replace HBr:=oT HBr hB;replace Ra:=Ra.b hB;replace Oa:=Oa.b hB;replace Fm:=Fm.b hB;replace RX:=RX.b hB;replace Rr:=Rr.b hB;replace Oq:=Oq.b hB;replace Fq:=Fq.b hB;replace Vq:=Vq.b hB;replace Vm:=Vm.b hB;replace Vu:=Vu.b hB;replace Vp:=Vp.b hB;replace HO:=HO.b hB;clear hB;clear h_s;refine hK.out _ _ HBr.o (fun hHeld=> ?_);clear hK K
         try simp only[Act.put,sX1,sX2,sX3]
         refine eU 12 fun K hK=> ?_;go_simp;refine(qEG (w:=w11) (k:=8001) Vp.o Vs.o (Sp.o.mono (by omega)) (Sq.o.mul Su.o) (by omega)).mono ?_;rintro e w12 ⟨s_v,a_v,n_v,c_v,rfl,h_v,hB⟩;have Vv:=hZ h_v;replace HBr:=oT HBr hB;replace Ra:=Ra.b hB;replace Oa:=Oa.b hB;replace Fm:=Fm.b hB;replace RX:=RX.b hB;replace Rr:=Rr.b hB;replace Oq:=Oq.b hB;replace Fq:=Fq.b hB;replace Vq:=Vq.b hB;replace Vm:=Vm.b hB;replace Vu:=Vu.b hB;replace Vp:=Vp.b hB;replace Vs:=Vs.b hB;replace HO:=HO.b hB;clear hB;clear h_v;refine hK.out _ _ HBr.o (fun hHeld=> ?_);clear hK K
         try simp only[Act.put,sX1,sX2,sX3]
         refine eU 14 fun K hK=> ?_;go_simp;refine(qEe (w:=w12) (k:=8002) (l:=4000) Vv.o Vm.o ((Sp.o.mono (by omega)).sub (Sq.o.mul Su.o)) Sm.o (by omega) (by omega) (by omega)).mono ?_;rintro e w13 ⟨s_z,a_z,n_z,c_z,rfl,h_z,hB⟩;have Vz:=hZ h_z;replace HBr:=oT HBr hB;replace Ra:=Ra.b hB;replace Oa:=Oa.b hB;replace Fm:=Fm.b hB;replace RX:=RX.b hB;replace Rr:=Rr.b hB;replace Oq:=Oq.b hB;replace Fq:=Fq.b hB;replace Vq:=Vq.b hB;replace Vm:=Vm.b hB;replace Vu:=Vu.b hB;replace Vp:=Vp.b hB;replace Vs:=Vs.b hB;replace Vv:=Vv.b hB;replace HO:=HO.b hB;clear hB;clear h_z;refine hK.out _ _ HBr.o (fun hHeld=> ?_);clear hK K
         try simp only[Act.put,sX1,sX2,sX3]
         refine pU 15 82 ?_;obtain⟨s_9,a_9,n_9,c_9,e0,e1,-⟩:=Ra.o.get (k) Hka.o;have e2:=Ra.o.frozen (k*2);have e3:=Ra.o.frozen (k*2+1);have hn9:qAi w13 (ga):=Ra.o.noInt;obtain⟨w14,hw⟩:=eX ((w13.setCell ⟨ga,k*2,none⟩ (.bool s_z)).setCell ⟨ga,k*2+1,none⟩ (.slice a_z n_z c_z));have hw2:st2 w13 (ga) (k*2) (k*2+1) s_z a_z n_z c_z=w14:=hw;replace Ra:=hZ (qAC.put' Ra.o (k) Hka.o Vz.o);rw[hw2]at Ra;replace Oa:=hZ (Oa.o.offe hw2 (by have:=HWg.o;have:=HW.o;have:=Hba.o;have:=Hbm.o;have:=Hbr.o;have:=Hb8.o;have:=Hb10.o;omega));replace Fm:=hZ (Fm.o.offe hw2 hn9 (by have:=HWg.o;have:=HW.o;have:=Hba.o;have:=Hbm.o;have:=Hbr.o;have:=Hb8.o;have:=Hb10.o;omega));replace RX:=hZ (RwX.off (g:=ga) (o1:=k*2) (o2:=k*2+1) (s:=s_z) (a:=a_z) (n':=n_z) (c:=c_z) RX.o hn9 ⟨Ne.symm Hne.o.1,fun i hi _=>Hne.o.2 i hi⟩);rw[hw2]at RX;replace Rr:=hZ (Rr.o.offe hw2 hn9 (by have:=HWg.o;have:=HW.o;have:=Hba.o;have:=Hbm.o;have:=Hbr.o;have:=Hb8.o;have:=Hb10.o;omega));replace Oq:=hZ (Oq.o.offe hw2 (by have:=HWg.o;have:=HW.o;have:=Hba.o;have:=Hbm.o;have:=Hbr.o;have:=Hb8.o;have:=Hb10.o;omega));replace Fq:=hZ (Fq.o.offe hw2 hn9 (by have:=HWg.o;have:=HW.o;have:=Hba.o;have:=Hbm.o;have:=Hbr.o;have:=Hb8.o;have:=Hb10.o;omega));replace Vq:=hZ (Vq.o.offe hw2 hn9);replace Vm:=hZ (Vm.o.offe hw2 hn9);replace Vu:=hZ (Vu.o.offe hw2 hn9);replace Vp:=hZ (Vp.o.offe hw2 hn9);replace Vs:=hZ (Vs.o.offe hw2 hn9);replace Vv:=hZ (Vv.o.offe hw2 hn9);replace Vz:=hZ (Vz.o.offe hw2 hn9);replace HO:=hZ (HO.o.offe hw2 (Or.inl (Or.inl rfl)));clear hw2 hn9;refine lU 16 fun K hK=> ?_;go_simp
         try rw[hw]
         refine hK.out _ _ ?_;clear hK K
         try simp only[Act.put,sX1,sX2,sX3]
         clear hw e0 e1 e2 e3;refine dU ?_;clear hHeld
         go_wp2_with fail
         go_roundw
         case rel=>exact⟨k+1,as2.set k ((pz-qq*uz)%m),by omega,by omega,by go_num,hZ (HD.o.step hm0 hjk hkl (by rw[qAp Hka.o,qAp Hkr.o,Hpz.o,Huz.o])),Ra,Oa,Fm,RX,Rr,Oq,Fq,HO⟩
         case measure=>simp[intOf];omega
       ·as_aux_lemma=>
        obtain rfl:k=n:=by omega
        have dor:=Oq.o.cell;have doa:=Oa.o.cell;have Hja2:Hid (j<as2.length):=hZ (by rw[HD.o.len];exact hlt);obtain⟨s_9,a_9,n_9,c_9,e0,e1,-⟩:=Ra.o.get (j) Hja2.o;have e2:=Ra.o.frozen (j*2);have e3:=Ra.o.frozen (j*2+1);have hn9:qAi w8 (ga):=Ra.o.noInt;obtain⟨w9,hw⟩:=eX ((w8.setCell ⟨ga,j*2,none⟩ (.bool false)).setCell ⟨ga,j*2+1,none⟩ (.slice none 0 0));have hw2:st2 w8 (ga) (j*2) (j*2+1) false none 0 0=w9:=hw;replace Ra:=hZ (qAC.put' Ra.o (j) Hja2.o (qAJ _));rw[hw2]at Ra;replace Oa:=hZ (Oa.o.offe hw2 (by have:=HWg.o;have:=HW.o;have:=Hba.o;have:=Hbm.o;have:=Hbr.o;have:=Hb8.o;have:=Hb10.o;omega));replace Fm:=hZ (Fm.o.offe hw2 hn9 (by have:=HWg.o;have:=HW.o;have:=Hba.o;have:=Hbm.o;have:=Hbr.o;have:=Hb8.o;have:=Hb10.o;omega));replace RX:=hZ (RwX.off (g:=ga) (o1:=j*2) (o2:=j*2+1) (s:=false) (a:=none) (n':=0) (c:=0) RX.o hn9 ⟨Ne.symm Hne.o.1,fun i hi _=>Hne.o.2 i hi⟩);rw[hw2]at RX;replace Rr:=hZ (Rr.o.offe hw2 hn9 (by have:=HWg.o;have:=HW.o;have:=Hba.o;have:=Hbm.o;have:=Hbr.o;have:=Hb8.o;have:=Hb10.o;omega));replace Oq:=hZ (Oq.o.offe hw2 (by have:=HWg.o;have:=HW.o;have:=Hba.o;have:=Hbm.o;have:=Hbr.o;have:=Hb8.o;have:=Hb10.o;omega));replace Fq:=hZ (Fq.o.offe hw2 hn9 (by have:=HWg.o;have:=HW.o;have:=Hba.o;have:=Hbm.o;have:=Hbr.o;have:=Hb8.o;have:=Hb10.o;omega));replace HO:=hZ (HO.o.offe hw2 (Or.inl (Or.inl rfl)));clear hw2 hn9
        go_wp2_with fail
        clear hw e0 e1 e2 e3;obtain⟨k1,k2,k3,k4⟩:=HD.o.ins HR0.o HP.o (fun k hk=>HI.o.low k hk) Hrl.o Hal.o hlt HVq.o;go_roundw
        case rel=>exact⟨j+1,sq1.set j row,as2.set j 0,by omega,by go_num,hZ (HI.o.step hjs (by rw[HRow.o];exact k1) HBr1.o k2 k3 k4),hZ (RX.o.close hjl (by rw[HG.o];exact Rr.o) Hrl.o),Ra,Oa,Fm,HO⟩
        case measure=>simp[intOf];omega
     ·as_aux_lemma=>
      refine(qAE (w:=w7) Vt.o Sr.o (by omega)).mono ?_;rintro e w8 ⟨he,hB⟩;obtain⟨sgt,hs9,q0t,q1t⟩:=qBn (x:=rr) hr0;rw[hs9]at he;subst he;clear hs9;replace Ra:=Ra.b hB;replace Oa:=Oa.b hB;replace Fm:=Fm.b hB;replace Oq:=Oq.b hB;replace RX:=RX.b hB;replace Rr:=Rr.b hB;replace Fh:=Fh.b hB;replace Fo:=Fo.b hB;replace Fq:=Fq.b hB;replace Fr:=Fr.b hB;replace Vt:=Vt.b hB;replace HO:=HO.b hB;clear hB;clear Vt;obtain⟨s_h,a_h,n_h,c_h,t_h,h_h⟩:=Fh.o;have d0h:=t_h.cell0;have d1h:=t_h.cell1;have Vh:=hZ h_h;clear t_h h_h;obtain⟨s_o,a_o,n_o,c_o,t_o,h_o⟩:=Fo.o;have d0o:=t_o.cell0;have d1o:=t_o.cell1;have Vo:=hZ h_o;clear t_o h_o
      go_wp2_with fail
      clear d0h d1h d0o d1o;clear q0t q1t;refine(qL3 _ _ x y w8 Vh.o Vo.o hx0 hyp (Sx.o.mono (by omega)) (Sy.o.mono (by omega))).mono ?_;rintro e w9 ⟨dv,u,v,vg,vu,vv,rfl,h_g,h_u,h_v,hbz,hB⟩;obtain⟨s_g,a_g,n_g,c_g,rfl⟩:=h_g.form4;obtain⟨s_u,a_u,n_u,c_u,rfl⟩:=h_u.form4;obtain⟨s_v,a_v,n_v,c_v,rfl⟩:=h_v.form4;have Vg:=hZ h_g;have Vu:=hZ h_u;have Vv:=hZ h_v;have HBZ:=hZ hbz;clear Vh Vo;replace Ra:=Ra.b hB;replace Oa:=Oa.b hB;replace Fm:=Fm.b hB;replace Oq:=Oq.b hB;replace RX:=RX.b hB;replace Rr:=Rr.b hB;replace Fh:=Fh.b hB;replace Fo:=Fo.b hB;replace Fq:=Fq.b hB;replace Fr:=Fr.b hB;replace HO:=HO.b hB;clear hB;clear h_g h_u h_v hbz;have Hdv:Hid (0<dv/\dv<=x/\dv<=y):=hZ ⟨HBZ.o.g0,Int.le_of_dvd hx0 HBZ.o.gx,Int.le_of_dvd hyp HBZ.o.gy⟩;have Sg:Hid (Sz 4000 dv):=hZ (Sx.o.of_le (by have:=Hdv.o;omega));have Su:Hid (Sz 4100 u):=hZ ((Sy.o.of_le HBZ.o.ub).mono (by omega));have Sv:Hid (Sz 4100 v):=hZ ((Sz.of_le (Sx.o.add (Sz.one (by omega))) (by have:=HBZ.o.vb;omega)).mono (by omega));have hdv0:dv≠0:=by have:=Hdv.o;omega
      have hl11:=Fr.o.lt;obtain⟨w10,hw⟩:=eX ((((w9.alloc (.cells #[.bool s_g,.slice a_g n_g c_g] 73)).alloc (.cells #[.bool s_u,.slice a_u n_u c_u] 73)).alloc (.cells #[.bool s_v,.slice a_v n_v c_v] 73)));have hB:Below w9.heap.size w9 w10:=by rw[<-hw];exact(aR.alloc (by simp) _).alloc (by simp;omega) _
      obtain⟨b15,hb_b15⟩:=eX w9.heap.size;have h9:=Bx.blw (Bx.blw (Bx.new (w:=w9) Vg.o) ((Below.refl _ _).alloc (Nat.le_refl _) (.cells #[.bool s_u,.slice a_u n_u c_u] 73))) ((Below.refl _ _).alloc (Nat.le_refl _) (.cells #[.bool s_v,.slice a_v n_v c_v] 73));rw[hw,hb_b15]at h9;have Fg':=hZ h9;have hge_b15:w9.heap.size<=b15:=by omega
      clear h9;obtain⟨b16,hb_b16⟩:=eX (w9.heap.size+1);have h9:=Bx.blw (Bx.new (w:=(w9.alloc (.cells #[.bool s_g,.slice a_g n_g c_g] 73))) (Vu.o.blw aR)) ((Below.refl _ _).alloc (Nat.le_refl _) (.cells #[.bool s_v,.slice a_v n_v c_v] 73));rw[World.size_alloc]at h9;rw[hw,hb_b16]at h9;have Fu':=hZ h9;have hge_b16:w9.heap.size<=b16:=by omega
      clear h9;obtain⟨b17,hb_b17⟩:=eX (w9.heap.size+2);have h9:=Bx.new (w:=((w9.alloc (.cells #[.bool s_g,.slice a_g n_g c_g] 73)).alloc (.cells #[.bool s_u,.slice a_u n_u c_u] 73))) (Vv.o.blw (aR.alloc (by simp) _));rw[World.size_alloc,World.size_alloc]at h9;rw[hw,hb_b17]at h9;have Fv':=hZ h9;have hge_b17:w9.heap.size<=b17:=by omega
      clear h9;replace Ra:=Ra.b hB;replace Oa:=Oa.b hB;replace Fm:=Fm.b hB;replace Oq:=Oq.b hB;replace RX:=RX.b hB;replace Rr:=Rr.b hB;replace Fh:=Fh.b hB;replace Fo:=Fo.b hB;replace Fq:=Fq.b hB;replace Fr:=Fr.b hB;replace Vg:=Vg.b hB;replace Vu:=Vu.b hB;replace Vv:=Vv.b hB;replace HO:=HO.b hB;have Fg:=Fg';clear Fg';have Fu:=Fu';clear Fu';have Fv:=Fv';clear Fv';clear hB;have Hb15:Hid (br<b15/\b10+1<b15/\b15<b16/\br<b16):=hZ (by have:=Hb10.o;omega);clear hl11 hge_b15 hge_b16 hge_b17;obtain rfl:b17=b16+1:=by omega
      clear hb_b17
      go_wp2_with fail
      try rw[show b15+1=b16 by omega]
      clear hw hb_b15 hb_b16;clear Vg Vu Vv Fq Fr;have hl17:=Fv.o.lt;refine qEw (fun t ds a w'=>∃v94 v95 v96 v97 v98 v99 v100 b18 b19,a=⟨(((((((((t).setIfInBounds 18 (.pointer (some ⟨b18,0,none⟩))).setIfInBounds 19 (.pointer (some ⟨b19,0,none⟩))).setIfInBounds 94 v94).setIfInBounds 95 v95).setIfInBounds 96 v96).setIfInBounds 97 v97).setIfInBounds 98 v98).setIfInBounds 99 v99).setIfInBounds 100 v100,ds⟩/\Hid (Bx w' b18 (-(y/dv)))/\Hid (Bx w' b19 (x/dv))/\Hid (Below w10.heap.size w10 w')/\Hid (b18≠b19/\w10.heap.size<=b18/\w10.heap.size<=b19)) ?_ ?_
      ·as_aux_lemma=>
       have HJ:=hZ (Below.refl w10.heap.size w10);obtain⟨w11,hwd⟩:=eX w10.drew;have hB:=dB hwd;replace Fh:=Fh.b hB;replace Fo:=Fo.b hB;replace Fg:=Fg.b hB;replace HJ:=bT HJ hB;clear hB;have HBr:Hid (qAc (fun b=>w11.heap.size<=b) w11 w11):=hZ (qAc.refl _ _);refine qAU [10] (fun w'=>qAc (fun b=>w11.heap.size<=b) w11 w') (by kernel_rfl) (by rw[hwd];exact qAc.refl _ _) (fun hHeld=> ?_);rw[hwd]at hHeld ⊢;clear hwd;obtain⟨s_o,a_o,n_o,c_o,t_o,h_o⟩:=Fo.o;have d0o:=t_o.cell0;have d1o:=t_o.cell1;have Vo:=hZ h_o;clear t_o h_o;obtain⟨s_h,a_h,n_h,c_h,t_h,h_h⟩:=Fh.o;have d0h:=t_h.cell0;have d1h:=t_h.cell1;have Vh:=hZ h_h;clear t_h h_h;obtain⟨s_g,a_g,n_g,c_g,t_g,h_g⟩:=Fg.o;have d0g:=t_g.cell0;have d1g:=t_g.cell1;have Vg:=hZ h_g;clear t_g h_g;refine tV 0 94 (cT (Nat.not_le_of_lt Fo.o.lt) d0o Fo.o.lt) (cT (Nat.not_le_of_lt Fo.o.lt) d1o Fo.o.lt) ?_;refine tV 1 95 (cT (Nat.not_le_of_lt Fg.o.lt) d0g Fg.o.lt) (cT (Nat.not_le_of_lt Fg.o.lt) d1g Fg.o.lt) ?_;refine tV 4 98 (cT (Nat.not_le_of_lt Fh.o.lt) d0h Fh.o.lt) (cT (Nat.not_le_of_lt Fh.o.lt) d1h Fh.o.lt) ?_;refine tV 5 99 (cT (Nat.not_le_of_lt Fg.o.lt) d0g Fg.o.lt) (cT (Nat.not_le_of_lt Fg.o.lt) d1g Fg.o.lt) ?_;clear d0o d1o d0h d1h d0g d1g;clear Fh Fo Fg;have HJs:Hid (w10.heap.size<=w11.heap.size):=hZ HJ.o.size;refine qQF [2,3,6,7,8] [(3,2),(6,3)] 5 (fun t ds p a w=>∃v96 v97 v100 v18 v19 b18 b19,a=⟨(((((t).setIfInBounds 96 v96).setIfInBounds 97 v97).setIfInBounds 100 v100).setIfInBounds 18 v18).setIfInBounds 19 v19,ds⟩/\Hid (Below w11.heap.size w11 w)/\(p 2=true->Hid (qAr w v96 (y/dv)))/\(p 3=true->Hid (qAr w v97 (-(y/dv))))/\(p 6=true->Hid (qAr w v100 (x/dv)))/\(p 7=true->v18=.pointer (some ⟨b18,0,none⟩)/\Hid (Bx w b18 0)/\Hid (w11.heap.size<=b18))/\(p 8=true->v19=.pointer (some ⟨b19,0,none⟩)/\Hid (Bx w b19 0)/\Hid (w11.heap.size<=b19))/\(p 7=true->p 8=true->b18≠b19)) ?_ (by kernel_rfl) (by decide) rfl rfl ⟨?_,?_,?_,?_,?_,trivial⟩ ?_
       ·exact⟨_,_,_,_,_,0,0,by first|rfl|(simp only[sX1,sX2,sX3];rfl),hZ (Below.refl _ _),nofun,nofun,nofun,nofun,nofun,nofun⟩
       ·as_aux_lemma=>
        intro p a w12 hJ hp;obtain⟨v96,v97,v100,v18,v19,b18,b19,rfl,HBw,g2,g3,g6,g7,g8,n78⟩:=hJ;simp only[sX1,sX2,sX3];refine qCO 2 rfl (fun K hK=> ?_);replace Vo:=hZ (Vo.o.blw HBw.o);replace Vg:=hZ (Vg.o.blw HBw.o);go_simp;refine(qE3 (w:=w12) Vo.o Vg.o Sy.o Sg.o hdv0 (by omega) (by omega)).mono ?_;rintro e w13 ⟨s_k,a_k,n_k,c_k,rfl,h_k,hB⟩;exact hK.out _ _ (HBr.o.trans (qAc.of_below (HBw.o.trans (hB.mono HBw.o.size)))) ⟨_,v97,v100,v18,v19,b18,b19,by first|(simp only[Act.put];done)|(simp only[sX1,sX2,sX3];rfl),hZ (HBw.o.trans (hB.mono HBw.o.size)),fun _=>hZ h_k,fun h=>hZ ((g3 h).o.blw hB),fun h=>hZ ((g6 h).o.blw hB),fun h=>⟨(g7 h).1,hZ ((g7 h).2.1.o.blw hB),(g7 h).2.2⟩,fun h=>⟨(g8 h).1,hZ ((g8 h).2.1.o.blw hB),(g8 h).2.2⟩,n78⟩
       ·as_aux_lemma=>
        intro p a w12 hJ hp;obtain⟨v96,v97,v100,v18,v19,b18,b19,rfl,HBw,g2,g3,g6,g7,g8,n78⟩:=hJ;simp only[sX1,sX2,sX3];refine qCO 3 rfl (fun K hK=> ?_);have Vk:=g2 (hp 2 (by simp));obtain⟨s_k,a_k,n_k,c_k,rfl⟩:=Vk.o.form4;go_simp;refine(qRv (w:=w12) Vk.o (Sy.o.div hdv0) (by omega)).mono ?_;rintro e w13 ⟨s_c,a_c,n_c,c_c,rfl,h_c,hB⟩;exact hK.out _ _ (HBr.o.trans (qAc.of_below (HBw.o.trans (hB.mono HBw.o.size)))) ⟨_,_,v100,v18,v19,b18,b19,by first|(simp only[Act.put];done)|(simp only[sX1,sX2,sX3];rfl),hZ (HBw.o.trans (hB.mono HBw.o.size)),fun h=>hZ ((g2 h).o.blw hB),fun _=>hZ h_c,fun h=>hZ ((g6 h).o.blw hB),fun h=>⟨(g7 h).1,hZ ((g7 h).2.1.o.blw hB),(g7 h).2.2⟩,fun h=>⟨(g8 h).1,hZ ((g8 h).2.1.o.blw hB),(g8 h).2.2⟩,n78⟩
       ·as_aux_lemma=>
        intro p a w12 hJ hp;obtain⟨v96,v97,v100,v18,v19,b18,b19,rfl,HBw,g2,g3,g6,g7,g8,n78⟩:=hJ;simp only[sX1,sX2,sX3];refine qCO 6 rfl (fun K hK=> ?_);have Vc:=g3 (hp 3 (by simp));obtain⟨s_c,a_c,n_c,c_c,rfl⟩:=Vc.o.form4;replace Vh:=hZ (Vh.o.blw HBw.o);replace Vg:=hZ (Vg.o.blw HBw.o);go_simp;refine(qE3 (w:=w12) Vh.o Vg.o Sx.o Sg.o hdv0 (by omega) (by omega)).mono ?_;rintro e w13 ⟨s_d,a_d,n_d,c_d,rfl,h_d,hB⟩;exact hK.out _ _ (HBr.o.trans (qAc.of_below (HBw.o.trans (hB.mono HBw.o.size)))) ⟨v96,_,_,v18,v19,b18,b19,by first|(simp only[Act.put];done)|(simp only[sX1,sX2,sX3];rfl),hZ (HBw.o.trans (hB.mono HBw.o.size)),fun h=>hZ ((g2 h).o.blw hB),fun h=>hZ ((g3 h).o.blw hB),fun _=>hZ h_d,fun h=>⟨(g7 h).1,hZ ((g7 h).2.1.o.blw hB),(g7 h).2.2⟩,fun h=>⟨(g8 h).1,hZ ((g8 h).2.1.o.blw hB),(g8 h).2.2⟩,n78⟩
       ·as_aux_lemma=>
        intro p a w12 hJ hp;obtain⟨v96,v97,v100,v18,v19,b18,b19,rfl,HBw,g2,g3,g6,g7,g8,n78⟩:=hJ;simp only[sX1,sX2,sX3];refine qCO 7 rfl (fun K hK=> ?_);go_simp;obtain⟨w13,hw⟩:=eX (w12.alloc (.cells #[.bool false,.slice none 0 0] 73));have hB:=aB hw;have hx:Hid (Bx w13 w12.heap.size 0):=hZ (by rw[<-hw];exact Bx.new (qAJ _));rw[hw];clear hw;exact hK.out _ _ (HBr.o.trans (qAc.of_below (HBw.o.trans (hB.mono HBw.o.size)))) ⟨v96,v97,v100,_,v19,w12.heap.size,b19,by first|(simp only[Act.put];done)|(simp only[sX1,sX2,sX3];rfl),hZ (HBw.o.trans (hB.mono HBw.o.size)),fun h=>hZ ((g2 h).o.blw hB),fun h=>hZ ((g3 h).o.blw hB),fun h=>hZ ((g6 h).o.blw hB),fun _=>⟨rfl,hx,hZ HBw.o.size⟩,fun h=>⟨(g8 h).1,hZ ((g8 h).2.1.o.blw hB),(g8 h).2.2⟩,fun _ h=>by have:=(g8 h).2.1.o.lt;omega⟩
       ·as_aux_lemma=>
        intro p a w12 hJ hp;obtain⟨v96,v97,v100,v18,v19,b18,b19,rfl,HBw,g2,g3,g6,g7,g8,n78⟩:=hJ;simp only[sX1,sX2,sX3];refine qCO 8 rfl (fun K hK=> ?_);go_simp;obtain⟨w13,hw⟩:=eX (w12.alloc (.cells #[.bool false,.slice none 0 0] 73));have hB:=aB hw;have hx:Hid (Bx w13 w12.heap.size 0):=hZ (by rw[<-hw];exact Bx.new (qAJ _));rw[hw];clear hw;exact hK.out _ _ (HBr.o.trans (qAc.of_below (HBw.o.trans (hB.mono HBw.o.size)))) ⟨v96,v97,v100,v18,_,b18,w12.heap.size,by first|(simp only[Act.put];done)|(simp only[sX1,sX2,sX3];rfl),hZ (HBw.o.trans (hB.mono HBw.o.size)),fun h=>hZ ((g2 h).o.blw hB),fun h=>hZ ((g3 h).o.blw hB),fun h=>hZ ((g6 h).o.blw hB),fun h=>⟨(g7 h).1,hZ ((g7 h).2.1.o.blw hB),(g7 h).2.2⟩,fun _=>⟨rfl,hx,hZ HBw.o.size⟩,fun h _=>by have:=(g7 h).2.1.o.lt;omega⟩
       ·as_aux_lemma=>
        intro p a w12 hJ hp;obtain⟨v96,v97,v100,v18,v19,b18,b19,rfl,HBw,g2,g3,g6,g7,g8,n78⟩:=hJ;have Vk:=g2 (hp 2 (by simp));obtain⟨s_k,a_k,n_k,c_k,rfl⟩:=Vk.o.form4;have Vc:=g3 (hp 3 (by simp));obtain⟨s_c,a_c,n_c,c_c,rfl⟩:=Vc.o.form4;have Vd:=g6 (hp 6 (by simp));obtain⟨s_d,a_d,n_d,c_d,rfl⟩:=Vd.o.form4;obtain⟨rfl,Fc,hge_b18⟩:=g7 (hp 7 (by simp));replace hge_b18:w11.heap.size<=b18:=Nat.le_trans HBr.o.size hge_b18.o;obtain⟨rfl,Fd,hge_b19⟩:=g8 (hp 8 (by simp));replace hge_b19:w11.heap.size<=b19:=Nat.le_trans HBr.o.size hge_b19.o;replace n78:=n78 (hp 7 (by simp)) (hp 8 (by simp))
        skip
        replace HBr:=hZ (HBr.o.trans (qAc.of_below HBw.o));have hB:=HBw.o;simp only[sX1,sX2,sX3];clear HBw;replace Vo:=Vo.b hB;replace Vh:=Vh.b hB;replace Vg:=Vg.b hB;replace HJ:=bT HJ hB;clear hB;obtain⟨s_9,a_9,n_9,c_9,t_9,-⟩:=Fc.o;have e0:=t_9.cell0;have e1:=t_9.cell1;have e2:=t_9.frozen 0;have e3:=t_9.frozen 1;clear t_9;have hn9:qAi w12 (b18):=Fc.o.noInt;obtain⟨w13,hw⟩:=eX ((w12.setCell ⟨b18,0,none⟩ (.bool s_c)).setCell ⟨b18,1,none⟩ (.slice a_c n_c c_c));have hw2:st2 w12 (b18) (0) (1) s_c a_c n_c c_c=w13:=hw;replace Fc:=hZ (Bx.put Fc.o Vc.o);rw[hw2]at Fc;replace Vo:=hZ (Vo.o.offe hw2 hn9);replace Vh:=hZ (Vh.o.offe hw2 hn9);replace Vg:=hZ (Vg.o.offe hw2 hn9);replace Vk:=hZ (Vk.o.offe hw2 hn9);replace Vc:=hZ (Vc.o.offe hw2 hn9);replace Vd:=hZ (Vd.o.offe hw2 hn9);replace Fd:=hZ (Fd.o.offe hw2 hn9 (by omega));replace HJ:=hZ (bO hw2 HJ.o (by have:=HJs.o;omega));clear hw2 hn9;replace HBr:=hZ (HBr.o.offs hw hge_b18);refine eU 9 fun K hK=> ?_;go_simp
        try rw[hw]
        refine hK.out _ _ HBr.o (fun hHeld=> ?_);clear hK K
        try simp only[Act.put,sX1,sX2,sX3]
        clear hw e0 e1 e2 e3;obtain⟨s_9,a_9,n_9,c_9,t_9,-⟩:=Fd.o;have e0:=t_9.cell0;have e1:=t_9.cell1;have e2:=t_9.frozen 0;have e3:=t_9.frozen 1;clear t_9;have hn9:qAi w13 (b19):=Fd.o.noInt;obtain⟨w14,hw⟩:=eX ((w13.setCell ⟨b19,0,none⟩ (.bool s_d)).setCell ⟨b19,1,none⟩ (.slice a_d n_d c_d));have hw2:st2 w13 (b19) (0) (1) s_d a_d n_d c_d=w14:=hw;replace Fd:=hZ (Bx.put Fd.o Vd.o);rw[hw2]at Fd;replace Vo:=hZ (Vo.o.offe hw2 hn9);replace Vh:=hZ (Vh.o.offe hw2 hn9);replace Vg:=hZ (Vg.o.offe hw2 hn9);replace Vk:=hZ (Vk.o.offe hw2 hn9);replace Vc:=hZ (Vc.o.offe hw2 hn9);replace Vd:=hZ (Vd.o.offe hw2 hn9);replace Fc:=hZ (Fc.o.offe hw2 hn9 (by omega));replace HJ:=hZ (bO hw2 HJ.o (by have:=HJs.o;omega));clear hw2 hn9;refine lU 10 fun K hK=> ?_;go_simp
        try rw[hw]
        refine hK.out _ _ ?_;clear hK K
        try simp only[Act.put,sX1,sX2,sX3]
        clear hw e0 e1 e2 e3;refine dU ?_;clear hHeld;refine qA0 ⟨_,_,_,_,_,_,_,_,_,by first|rfl|(simp only[sX1,sX2,sX3];rfl),Fc,Fd,HJ,hZ (by have:=HJs.o;omega)⟩
      ·as_aux_lemma=>
       rintro a w11 ⟨v94,v95,v96,v97,v98,v99,v100,b18,b19,rfl,Fc,Fd,HJ,Hxy⟩;simp only[sX1,sX2,sX3];have hB:=HJ.o;clear HJ;replace Ra:=Ra.b hB;replace Oa:=Oa.b hB;replace Fm:=Fm.b hB;replace Oq:=Oq.b hB;replace RX:=RX.b hB;replace Rr:=Rr.b hB;replace Fh:=Fh.b hB;replace Fo:=Fo.b hB;replace Fg:=Fg.b hB;replace Fu:=Fu.b hB;replace Fv:=Fv.b hB;replace HO:=HO.b hB;clear hB;have Hb18:Hid (b16+1<b18/\b16+1<b19/\b18≠b19):=hZ (by have:=Hxy.o;omega);clear Hxy hl17;have Sc:Hid (Sz 4100 (-(y/dv))):=hZ ((Sy.o.div hdv0).neg.mono (by omega));have Sd:Hid (Sz 4100 (x/dv)):=hZ ((Sx.o.div hdv0).mono (by omega));have Hyd:Hid (vec as1 j=y/\vec row j=x):=hZ ⟨by rw[qAp Hja.o,Hy.o],by rw[qAp Hjr.o,Hx.o]⟩
       go_wp2_with fail
       have HC:=hZ (qCG.start (m:=m) (u:=u) (v:=v) (c:= -(y/dv)) (d:=x/dv) (j:=j) Hrl.o Hal.o HBr1.o HI.o.bda)
       go_loopw [20] (fun i wr=>∃(k:Nat) (row2 as2:List Int),j+1<=k/\k<=n/\i=.int .i64 k/\Hid (qCG m u v (-(y/dv)) (x/dv) n j k row as1 row2 as2)/\Hid (qAC wr ga as2)/\Hid (One wr ba 77 (.slice (some ⟨ga,0,none⟩) n c2))/\Hid (Bx wr bm m)/\Hid (RwX wr R l n sq1 j)/\Hid (qAC wr g row2)/\Hid (One wr br 77 (.slice (some ⟨g,0,none⟩) n c1))/\Hid (Bx wr b15 dv)/\Hid (Bx wr b16 u)/\Hid (Bx wr (b16+1) v)/\Hid (Bx wr b18 (-(y/dv)))/\Hid (Bx wr b19 (x/dv))/\Hid (qAc (qRd ga l) w0 wr)) (fun i _=>n-(intOf i).toNat)
       case atStart=>exact⟨j+1,row,as1,by omega,by omega,by go_num,HC,Ra,Oa,Fm,RX,Rr,Oq,Fg,Fu,Fv,Fc,Fd,HO⟩
       case round=>
        clear HC Ra Oa Fm RX Rr Oq Fg Fu Fv Fc Fd Fh Fo HO;obtain⟨k,row2,as2,hjk,hk,rfl,HC,Ra,Oa,Fm,RX,Rr,Oq,Fg,Fu,Fv,Fc,Fd,HO⟩:=hrel;obtain⟨w11,rfl⟩:=eY wr;by_cases hkl:k<n
        ·as_aux_lemma=>
         have j1:(0:Int)<=(k:Int):=by omega
         have j2:(k:Int)<(n:Int):=by omega
         have Hkr:Hid (k<row2.length):=hZ (by rw[HC.o.lenr];exact hkl);have Hka:Hid (k<as2.length):=hZ (by rw[HC.o.lena];exact hkl);have dor:=Oq.o.cell;obtain⟨s_p,a_p,n_p,c_p,d0p,d1p,h_p⟩:=Rr.o.get k Hkr.o;obtain⟨pz,hpz⟩:=eX (row2[k]'Hkr.o);rw[hpz]at h_p;have Vp:=hZ h_p;have Hpz:=hZ hpz;clear h_p hpz;have Sp:Hid (Sz 4000 pz):=hZ (qGA Sm.o (Hpz.o▸HC.o.bdr _ (List.getElem_mem _)));obtain⟨qz,hqz⟩:=eX (as2[k]'Hka.o);have Hqz:=hZ hqz;have Sq2:Hid (Sz 4000 qz):=hZ (qGA Sm.o (hqz▸HC.o.bda _ (List.getElem_mem _)));clear hqz
         go_wp2_with fail
         clear dor d0p d1p;by_cases hp0:pz=0
         ·as_aux_lemma=>
          refine(qAE (w:=w11) Vp.o Sp.o (by omega)).mono ?_;rintro e w12 ⟨he,hB⟩;rw[show qAV pz 0=0 by rw[hp0];exact qA7 0]at he;subst he;replace Ra:=Ra.b hB;replace Oa:=Oa.b hB;replace Fm:=Fm.b hB;replace RX:=RX.b hB;replace Rr:=Rr.b hB;replace Oq:=Oq.b hB;replace Fg:=Fg.b hB;replace Fu:=Fu.b hB;replace Fv:=Fv.b hB;replace Fc:=Fc.b hB;replace Fd:=Fd.b hB;replace Vp:=Vp.b hB;replace HO:=HO.b hB;clear hB;clear Vp;have doa:=Oa.o.cell;obtain⟨s_k,a_k,n_k,c_k,d0k,d1k,h_k⟩:=Ra.o.get k Hka.o;rw[Hqz.o]at h_k;have Vk:=hZ h_k;clear h_k
          go_wp2_with fail
          clear doa d0k d1k;by_cases hq0:qz=0
          ·as_aux_lemma=>
           refine(qAE (w:=w12) Vk.o Sq2.o (by omega)).mono ?_;rintro e w13 ⟨he,hB⟩;rw[show qAV qz 0=0 by rw[hq0];exact qA7 0]at he;subst he;replace Ra:=Ra.b hB;replace Oa:=Oa.b hB;replace Fm:=Fm.b hB;replace RX:=RX.b hB;replace Rr:=Rr.b hB;replace Oq:=Oq.b hB;replace Fg:=Fg.b hB;replace Fu:=Fu.b hB;replace Fv:=Fv.b hB;replace Fc:=Fc.b hB;replace Fd:=Fd.b hB;replace Vk:=Vk.b hB;replace HO:=HO.b hB;clear hB
           go_wp2_with fail
           go_roundw
           case rel=>exact⟨k+1,row2,as2,by omega,by omega,by go_num,hZ (HC.o.skip (by rw[qAp Hkr.o,Hpz.o];exact hp0) (by rw[qAp Hka.o,Hqz.o];exact hq0)),Ra,Oa,Fm,RX,Rr,Oq,Fg,Fu,Fv,Fc,Fd,HO⟩
           case measure=>simp[intOf];omega
          ·as_aux_lemma=>
           refine(qAE (w:=w12) Vk.o Sq2.o (by omega)).mono ?_;rintro e w13 ⟨he,hB⟩;obtain⟨sgk,hs9,q0k,q1k⟩:=qBn (x:=qz) hq0;rw[hs9]at he;subst he;clear hs9;replace Ra:=Ra.b hB;replace Oa:=Oa.b hB;replace Fm:=Fm.b hB;replace RX:=RX.b hB;replace Rr:=Rr.b hB;replace Oq:=Oq.b hB;replace Fg:=Fg.b hB;replace Fu:=Fu.b hB;replace Fv:=Fv.b hB;replace Fc:=Fc.b hB;replace Fd:=Fd.b hB;replace Vk:=Vk.b hB;replace HO:=HO.b hB;clear hB;clear Vk;obtain⟨s_u,a_u,n_u,c_u,t_u,h_u⟩:=Fu.o;have d0u:=t_u.cell0;have d1u:=t_u.cell1;have Vu:=hZ h_u;clear t_u h_u;obtain⟨s_v,a_v,n_v,c_v,t_v,h_v⟩:=Fv.o;have d0v:=t_v.cell0;have d1v:=t_v.cell1;have Vv:=hZ h_v;clear t_v h_v;obtain⟨s_c,a_c,n_c,c_c,t_c,h_c⟩:=Fc.o;have d0c:=t_c.cell0;have d1c:=t_c.cell1;have Vc:=hZ h_c;clear t_c h_c;obtain⟨s_d,a_d,n_d,c_d,t_d,h_d⟩:=Fd.o;have d0d:=t_d.cell0;have d1d:=t_d.cell1;have Vd:=hZ h_d;clear t_d h_d
           go_wp2_with fail
           clear d0u d1u d0v d1v d0c d1c d0d d1d;refine(qGk w13 g ga br ba bm n c1 c2 k row2 as2 _ _ _ _ u v (-(y/dv)) (x/dv) m Rr.o Ra.o Hkr.o Hka.o pz qz Hpz.o Hqz.o hn hkl hc1a hc1b hc2 hc2' Oq.o Oa.o Fm.o (by omega) (by have:=HWg.o;have:=HW.o;have:=Hba.o;have:=Hbm.o;have:=Hbr.o;omega) Vu.o Vv.o Vc.o Vd.o Su.o Sv.o Sc.o Sd.o (Sm.o.mono (by omega)) (Sp.o.mono (by omega)) (Sq2.o.mono (by omega))).mono ?_;rintro e w14 ⟨⟨v9,rfl⟩,hr9,ha9,ho⟩;have hN:∀b,b=g\/b=ga->qAi w13 b:=by rintro b (rfl|rfl);exact Rr.o.noInt;exact Ra.o.noInt
           clear Vu Vv Vc Vd;replace Ra:=hZ (ha9);replace RX:=hZ (RX.o.only ho hN ⟨by rintro(e|e);exact HWg.o.2.2 e;exact Hne.o.1 e.symm,fun i hi hij=>by rintro(e|e);exact RX.o.nodup i j hi hjl hij (e.trans HG.o.symm);exact Hne.o.2 i hi e⟩);replace Rr:=hZ (hr9);replace Oa:=hZ (Oa.o.only ho (by intro e;have:=HWg.o;have:=HW.o;have:=Hba.o;have:=Hbm.o;have:=Hbr.o;have:=Hb8.o;have:=Hb10.o;have:=Hb15.o;have:=Hb18.o;omega));replace Fm:=hZ (Fm.o.only ho hN (by intro e;have:=HWg.o;have:=HW.o;have:=Hba.o;have:=Hbm.o;have:=Hbr.o;have:=Hb8.o;have:=Hb10.o;have:=Hb15.o;have:=Hb18.o;omega));replace Oq:=hZ (Oq.o.only ho (by intro e;have:=HWg.o;have:=HW.o;have:=Hba.o;have:=Hbm.o;have:=Hbr.o;have:=Hb8.o;have:=Hb10.o;have:=Hb15.o;have:=Hb18.o;omega));replace Fg:=hZ (Fg.o.only ho hN (by intro e;have:=HWg.o;have:=HW.o;have:=Hba.o;have:=Hbm.o;have:=Hbr.o;have:=Hb8.o;have:=Hb10.o;have:=Hb15.o;have:=Hb18.o;omega));replace Fu:=hZ (Fu.o.only ho hN (by intro e;have:=HWg.o;have:=HW.o;have:=Hba.o;have:=Hbm.o;have:=Hbr.o;have:=Hb8.o;have:=Hb10.o;have:=Hb15.o;have:=Hb18.o;omega));replace Fv:=hZ (Fv.o.only ho hN (by intro e;have:=HWg.o;have:=HW.o;have:=Hba.o;have:=Hbm.o;have:=Hbr.o;have:=Hb8.o;have:=Hb10.o;have:=Hb15.o;have:=Hb18.o;omega));replace Fc:=hZ (Fc.o.only ho hN (by intro e;have:=HWg.o;have:=HW.o;have:=Hba.o;have:=Hbm.o;have:=Hbr.o;have:=Hb8.o;have:=Hb10.o;have:=Hb15.o;have:=Hb18.o;omega));replace Fd:=hZ (Fd.o.only ho hN (by intro e;have:=HWg.o;have:=HW.o;have:=Hba.o;have:=Hbm.o;have:=Hbr.o;have:=Hb8.o;have:=Hb10.o;have:=Hb15.o;have:=Hb18.o;omega));replace HO:=hZ (HO.o.trans (ho.mono (fun b e=>by rcases e with rfl|rfl;exact Or.inr ⟨j,hjl,HG.o.symm⟩;exact Or.inl rfl)));clear ho hN hr9 ha9
           go_wp2_with fail
           go_roundw
           case rel=>exact⟨k+1,row2.set k ((u*pz+v*qz)%m),as2.set k ((-(y/dv)*pz+x/dv*qz)%m),by omega,by omega,by go_num,hZ (HC.o.step hm0 hjk hkl (by rw[qAp Hkr.o,Hpz.o]) (by rw[qAp Hka.o,Hqz.o])),Ra,Oa,Fm,RX,Rr,Oq,Fg,Fu,Fv,Fc,Fd,HO⟩
           case measure=>simp[intOf];omega
         ·as_aux_lemma=>
          refine(qAE (w:=w11) Vp.o Sp.o (by omega)).mono ?_;rintro e w12 ⟨he,hB⟩;obtain⟨sgp,hs9,q0p,q1p⟩:=qBn (x:=pz) hp0;rw[hs9]at he;subst he;clear hs9;replace Ra:=Ra.b hB;replace Oa:=Oa.b hB;replace Fm:=Fm.b hB;replace RX:=RX.b hB;replace Rr:=Rr.b hB;replace Oq:=Oq.b hB;replace Fg:=Fg.b hB;replace Fu:=Fu.b hB;replace Fv:=Fv.b hB;replace Fc:=Fc.b hB;replace Fd:=Fd.b hB;replace Vp:=Vp.b hB;replace HO:=HO.b hB;clear hB;clear Vp;obtain⟨s_u,a_u,n_u,c_u,t_u,h_u⟩:=Fu.o;have d0u:=t_u.cell0;have d1u:=t_u.cell1;have Vu:=hZ h_u;clear t_u h_u;obtain⟨s_v,a_v,n_v,c_v,t_v,h_v⟩:=Fv.o;have d0v:=t_v.cell0;have d1v:=t_v.cell1;have Vv:=hZ h_v;clear t_v h_v;obtain⟨s_c,a_c,n_c,c_c,t_c,h_c⟩:=Fc.o;have d0c:=t_c.cell0;have d1c:=t_c.cell1;have Vc:=hZ h_c;clear t_c h_c;obtain⟨s_d,a_d,n_d,c_d,t_d,h_d⟩:=Fd.o;have d0d:=t_d.cell0;have d1d:=t_d.cell1;have Vd:=hZ h_d;clear t_d h_d
          go_wp2_with fail
          clear d0u d1u d0v d1v d0c d1c d0d d1d;refine(qGk w12 g ga br ba bm n c1 c2 k row2 as2 _ _ _ _ u v (-(y/dv)) (x/dv) m Rr.o Ra.o Hkr.o Hka.o pz qz Hpz.o Hqz.o hn hkl hc1a hc1b hc2 hc2' Oq.o Oa.o Fm.o (by omega) (by have:=HWg.o;have:=HW.o;have:=Hba.o;have:=Hbm.o;have:=Hbr.o;omega) Vu.o Vv.o Vc.o Vd.o Su.o Sv.o Sc.o Sd.o (Sm.o.mono (by omega)) (Sp.o.mono (by omega)) (Sq2.o.mono (by omega))).mono ?_;rintro e w13 ⟨⟨v9,rfl⟩,hr9,ha9,ho⟩;have hN:∀b,b=g\/b=ga->qAi w12 b:=by rintro b (rfl|rfl);exact Rr.o.noInt;exact Ra.o.noInt
          clear Vu Vv Vc Vd;replace Ra:=hZ (ha9);replace RX:=hZ (RX.o.only ho hN ⟨by rintro(e|e);exact HWg.o.2.2 e;exact Hne.o.1 e.symm,fun i hi hij=>by rintro(e|e);exact RX.o.nodup i j hi hjl hij (e.trans HG.o.symm);exact Hne.o.2 i hi e⟩);replace Rr:=hZ (hr9);replace Oa:=hZ (Oa.o.only ho (by intro e;have:=HWg.o;have:=HW.o;have:=Hba.o;have:=Hbm.o;have:=Hbr.o;have:=Hb8.o;have:=Hb10.o;have:=Hb15.o;have:=Hb18.o;omega));replace Fm:=hZ (Fm.o.only ho hN (by intro e;have:=HWg.o;have:=HW.o;have:=Hba.o;have:=Hbm.o;have:=Hbr.o;have:=Hb8.o;have:=Hb10.o;have:=Hb15.o;have:=Hb18.o;omega));replace Oq:=hZ (Oq.o.only ho (by intro e;have:=HWg.o;have:=HW.o;have:=Hba.o;have:=Hbm.o;have:=Hbr.o;have:=Hb8.o;have:=Hb10.o;have:=Hb15.o;have:=Hb18.o;omega));replace Fg:=hZ (Fg.o.only ho hN (by intro e;have:=HWg.o;have:=HW.o;have:=Hba.o;have:=Hbm.o;have:=Hbr.o;have:=Hb8.o;have:=Hb10.o;have:=Hb15.o;have:=Hb18.o;omega));replace Fu:=hZ (Fu.o.only ho hN (by intro e;have:=HWg.o;have:=HW.o;have:=Hba.o;have:=Hbm.o;have:=Hbr.o;have:=Hb8.o;have:=Hb10.o;have:=Hb15.o;have:=Hb18.o;omega));replace Fv:=hZ (Fv.o.only ho hN (by intro e;have:=HWg.o;have:=HW.o;have:=Hba.o;have:=Hbm.o;have:=Hbr.o;have:=Hb8.o;have:=Hb10.o;have:=Hb15.o;have:=Hb18.o;omega));replace Fc:=hZ (Fc.o.only ho hN (by intro e;have:=HWg.o;have:=HW.o;have:=Hba.o;have:=Hbm.o;have:=Hbr.o;have:=Hb8.o;have:=Hb10.o;have:=Hb15.o;have:=Hb18.o;omega));replace Fd:=hZ (Fd.o.only ho hN (by intro e;have:=HWg.o;have:=HW.o;have:=Hba.o;have:=Hbm.o;have:=Hbr.o;have:=Hb8.o;have:=Hb10.o;have:=Hb15.o;have:=Hb18.o;omega));replace HO:=hZ (HO.o.trans (ho.mono (fun b e=>by rcases e with rfl|rfl;exact Or.inr ⟨j,hjl,HG.o.symm⟩;exact Or.inl rfl)));clear ho hN hr9 ha9
          go_wp2_with fail
          go_roundw
          case rel=>exact⟨k+1,row2.set k ((u*pz+v*qz)%m),as2.set k ((-(y/dv)*pz+x/dv*qz)%m),by omega,by omega,by go_num,hZ (HC.o.step hm0 hjk hkl (by rw[qAp Hkr.o,Hpz.o]) (by rw[qAp Hka.o,Hqz.o])),Ra,Oa,Fm,RX,Rr,Oq,Fg,Fu,Fv,Fc,Fd,HO⟩
          case measure=>simp[intOf];omega
        ·as_aux_lemma=>
         obtain rfl:k=n:=by omega
         have Hjr2:Hid (j<row2.length):=hZ (by rw[HC.o.lenr];exact hlt);have Hja2:Hid (j<as2.length):=hZ (by rw[HC.o.lena];exact hlt);have HN9:Hid (br≠g/\ba≠g/\b15≠g):=hZ (by have:=HWg.o;have:=HW.o;have:=Hba.o;have:=Hbm.o;have:=Hbr.o;have:=Hb8.o;have:=Hb10.o;have:=Hb15.o;have:=Hb18.o;omega);have dor:=Oq.o.cell
         go_wp2_with fail
         clear dor;clear Fu Fv Fc Fd;obtain⟨w12,hwd⟩:=eX w11.drew;have hB:=dB hwd;replace Ra:=Ra.b hB;replace Oa:=Oa.b hB;replace Fm:=Fm.b hB;replace RX:=RX.b hB;replace Rr:=Rr.b hB;replace Oq:=Oq.b hB;replace Fg:=Fg.b hB;replace HO:=HO.b hB;clear hB;have HBr:Hid (qAc (fun b=>b=g) w12 w12):=hZ (qAc.refl _ _);refine qAU [9] (fun w'=>qAc (fun b=>b=g) w12 w') (by kernel_rfl) (by rw[hwd];exact qAc.refl _ _) (fun hHeld=> ?_);rw[hwd]at hHeld ⊢;clear hwd;have dor:=Oq.o.cell;have doa:=Oa.o.cell;obtain⟨s_g,a_g,n_g,c_g,t_g,h_g⟩:=Fg.o;have d0g:=t_g.cell0;have d1g:=t_g.cell1;have Vg:=hZ h_g;clear t_g h_g;refine tU 0 130 (cT (show ¬(br=g) by(have:=HN9.o;omega)) dor Oq.o.lt) ?_;refine pU 1 131 ?_;refine tU 2 132 (cT (show ¬(ba=g) by(have:=HN9.o;omega)) doa Oa.o.lt) ?_;refine pU 3 133 ?_;refine tV 4 134 (cT (show ¬(b15=g) by(have:=HN9.o;omega)) d0g Fg.o.lt) (cT (show ¬(b15=g) by(have:=HN9.o;omega)) d1g Fg.o.lt) ?_;refine pU 5 135 ?_;refine pU 6 136 ?_;clear d0g d1g;clear dor doa;obtain⟨s_9,a_9,n_9,c_9,e0,e1,-⟩:=Rr.o.get (j) Hjr2.o;have e2:=Rr.o.frozen (j*2);have e3:=Rr.o.frozen (j*2+1);have hn9:qAi w12 (g):=Rr.o.noInt;obtain⟨w13,hw⟩:=eX ((w12.setCell ⟨g,j*2,none⟩ (.bool s_g)).setCell ⟨g,j*2+1,none⟩ (.slice a_g n_g c_g));have hw2:st2 w12 (g) (j*2) (j*2+1) s_g a_g n_g c_g=w13:=hw;replace Rr:=hZ (qAC.put' Rr.o (j) Hjr2.o Vg.o);rw[hw2]at Rr;replace Ra:=hZ (Ra.o.offe hw2 hn9 (by have:=HWg.o;have:=HW.o;have:=Hba.o;have:=Hbm.o;have:=Hbr.o;have:=Hb8.o;have:=Hb10.o;have:=Hb15.o;have:=Hb18.o;omega));replace Oa:=hZ (Oa.o.offe hw2 (by have:=HWg.o;have:=HW.o;have:=Hba.o;have:=Hbm.o;have:=Hbr.o;have:=Hb8.o;have:=Hb10.o;have:=Hb15.o;have:=Hb18.o;omega));replace Fm:=hZ (Fm.o.offe hw2 hn9 (by have:=HWg.o;have:=HW.o;have:=Hba.o;have:=Hbm.o;have:=Hbr.o;have:=Hb8.o;have:=Hb10.o;have:=Hb15.o;have:=Hb18.o;omega));replace RX:=hZ (RwX.off (g:=g) (o1:=j*2) (o2:=j*2+1) (s:=s_g) (a:=a_g) (n':=n_g) (c:=c_g) RX.o hn9 ⟨HWg.o.2.2,fun i hi hij e=>RX.o.nodup i j hi hjl hij (e.trans HG.o.symm)⟩);rw[hw2]at RX;replace Oq:=hZ (Oq.o.offe hw2 (by have:=HWg.o;have:=HW.o;have:=Hba.o;have:=Hbm.o;have:=Hbr.o;have:=Hb8.o;have:=Hb10.o;have:=Hb15.o;have:=Hb18.o;omega));replace Fg:=hZ (Fg.o.offe hw2 hn9 (by have:=HWg.o;have:=HW.o;have:=Hba.o;have:=Hbm.o;have:=Hbr.o;have:=Hb8.o;have:=Hb10.o;have:=Hb15.o;have:=Hb18.o;omega));replace Vg:=hZ (Vg.o.offe hw2 hn9);replace HO:=hZ (HO.o.offe hw2 (Or.inl (Or.inr ⟨j,hjl,HG.o.symm⟩)));clear hw2 hn9;replace HBr:=hZ (HBr.o.off (g:=g) (o1:=j*2) (o2:=j*2+1) (s:=s_g) (a:=a_g) (n:=n_g) (c:=c_g) (show g=g from rfl));rw[show st2 w12 (g) (j*2) (j*2+1) s_g a_g n_g c_g=w13 from hw]at HBr;refine eU 7 fun K hK=> ?_;go_simp
         try rw[hw]
         refine hK.out _ _ HBr.o (fun hHeld=> ?_);clear hK K
         try simp only[Act.put,sX1,sX2,sX3]
         clear hw e0 e1 e2 e3;refine pU 8 137 ?_;obtain⟨s_9,a_9,n_9,c_9,e0,e1,-⟩:=Ra.o.get (j) Hja2.o;have e2:=Ra.o.frozen (j*2);have e3:=Ra.o.frozen (j*2+1);have hn9:qAi w13 (ga):=Ra.o.noInt;obtain⟨w14,hw⟩:=eX ((w13.setCell ⟨ga,j*2,none⟩ (.bool false)).setCell ⟨ga,j*2+1,none⟩ (.slice none 0 0));have hw2:st2 w13 (ga) (j*2) (j*2+1) false none 0 0=w14:=hw;replace Ra:=hZ (qAC.put' Ra.o (j) Hja2.o (qAJ _));rw[hw2]at Ra;replace Oa:=hZ (Oa.o.offe hw2 (by have:=HWg.o;have:=HW.o;have:=Hba.o;have:=Hbm.o;have:=Hbr.o;have:=Hb8.o;have:=Hb10.o;have:=Hb15.o;have:=Hb18.o;omega));replace Fm:=hZ (Fm.o.offe hw2 hn9 (by have:=HWg.o;have:=HW.o;have:=Hba.o;have:=Hbm.o;have:=Hbr.o;have:=Hb8.o;have:=Hb10.o;have:=Hb15.o;have:=Hb18.o;omega));replace RX:=hZ (RwX.off (g:=ga) (o1:=j*2) (o2:=j*2+1) (s:=false) (a:=none) (n':=0) (c:=0) RX.o hn9 ⟨Ne.symm Hne.o.1,fun i hi _=>Hne.o.2 i hi⟩);rw[hw2]at RX;replace Rr:=hZ (Rr.o.offe hw2 hn9 (by have:=HWg.o;have:=HW.o;have:=Hba.o;have:=Hbm.o;have:=Hbr.o;have:=Hb8.o;have:=Hb10.o;have:=Hb15.o;have:=Hb18.o;omega));replace Oq:=hZ (Oq.o.offe hw2 (by have:=HWg.o;have:=HW.o;have:=Hba.o;have:=Hbm.o;have:=Hbr.o;have:=Hb8.o;have:=Hb10.o;have:=Hb15.o;have:=Hb18.o;omega));replace Fg:=hZ (Fg.o.offe hw2 hn9 (by have:=HWg.o;have:=HW.o;have:=Hba.o;have:=Hbm.o;have:=Hbr.o;have:=Hb8.o;have:=Hb10.o;have:=Hb15.o;have:=Hb18.o;omega));replace Vg:=hZ (Vg.o.offe hw2 hn9);replace HO:=hZ (HO.o.offe hw2 (Or.inl (Or.inl rfl)));clear hw2 hn9;refine lU 9 fun K hK=> ?_;go_simp
         try rw[hw]
         refine hK.out _ _ ?_;clear hK K
         try simp only[Act.put,sX1,sX2,sX3]
         clear hw e0 e1 e2 e3;refine dU ?_;clear hHeld
         go_wp2_with fail
         have HC2:qCG m u v (-(vec as1 j/dv)) (vec row j/dv) k j k row as1 row2 as2:=by rw[Hyd.o.1,Hyd.o.2];exact HC.o
         obtain⟨k1,k2,k3,k4,k5,k6⟩:=HC2.ins (by rw[Hyd.o.1,Hyd.o.2];exact HBZ.o) HR0.o (fun k hk=>HI.o.low k hk) Hrl.o Hal.o hlt (by have:=Hdv.o;have:=HBx.o;omega);go_roundw
         case rel=>exact⟨j+1,sq1.set j (row2.set j dv),as2.set j 0,by omega,by go_num,hZ (HI.o.step hjs (by rw[HRow.o];exact k1) k2 k3 k5 k6),hZ (RX.o.close hjl (by rw[HG.o];exact Rr.o) k4),Ra,Oa,Fm,HO⟩
         case measure=>simp[intOf];omega
  ·skip
   obtain rfl:j=n:=by omega
   go_wp2_with fail
   go_end0
   exact⟨⟨_,rfl⟩,sq1,qL7.done (by rw[Hsl.o];exact HI.o),RS.o,HI.o.bd,HO.o⟩
theorem qH0.drop{m:Int}{n:Nat}:∀{j:Nat} {L:List Vec},qH0 m n j L->∀i,i<=L.length->qH0 m n (j+i) (L.drop i)
 |j,L,h,0,_=>by simpa using h
 |j,[],h,i+1,hi=>by simp at hi
 |j,r::rs,⟨_,_,_,_,_,h6⟩,i+1,hi=>by
  have:=h6.drop i (by simpa using hi)
  rwa [show j+1+i=j+(i+1) by omega]at this
structure qH6(m q:Int)(n j k:Nat)(sj row1 row2:List Int):Prop where
 len:row2.length=n
 low:∀t,t<j->vec row2 t=vec row1 t
 at_:vec row2 j=vec row1 j-q*vec sj j
 rest:∀t,k<=t->vec row2 t=vec row1 t
 dvd:∀t,j<t->t<k->m∣vec row1 t-q*vec sj t-vec row2 t
 bd:Bd m row2
section
variable {m q:Int}{n i j k:Nat}{sj row1 row2:List Int}
theorem qH6.none(hl:row1.length=n)(hb:Bd m row1):qH6 m 0 n j n sj row1 row1:=
 ⟨hl,fun _ _=>rfl,by rw[Int.zero_mul,Int.sub_zero],fun _ _=>rfl,fun t _ _=>⟨0,by rw[Int.zero_mul];omega⟩,hb⟩
theorem qH6.start(hl:row1.length=n)(hj:j<n)(hb:Bd m row1)(hq:q=vec row1 j/vec sj j)(hs:0<vec sj j/\vec sj j<=m):qH6 m q n j (j+1) sj row1 (row1.set j (vec row1 j-q*vec sj j)):=by
 have e:∀t,vec (row1.set j (vec row1 j-q*vec sj j)) t=if t=j then vec row1 j-q*vec sj j else vec row1 t:=fun t=>qCt (by omega) _ t;have hm:=Int.emod_add_mul_ediv (vec row1 j) (vec sj j);rw[<-hq,Int.mul_comm]at hm;have h1:=Int.emod_nonneg (vec row1 j) (show vec sj j≠0 by omega);have h2:=Int.emod_lt_of_pos (vec row1 j) hs.1;refine⟨by rw[List.length_set];exact hl,fun t ht=>by rw[e,if_neg (by omega)],by rw[e,if_pos rfl],fun t ht=>by rw[e,if_neg (by omega)],fun t h1 h2=>by omega,hb.set j ⟨by omega,by omega⟩⟩
theorem qH6.skip(h:qH6 m q n j k sj row1 row2)(hj:j<k)(h0:vec sj k=0):qH6 m q n j (k+1) sj row1 row2:=
 ⟨h.len,h.low,h.at_,fun t ht=>h.rest t (by omega),fun t h1 h2=>by
  rcases Nat.lt_or_ge t k with h3|h3
  ·exact h.dvd t h1 h3
  ·obtain rfl:t=k:=by omega
   rw[h.rest t (Nat.le_refl _),h0];exact⟨0,by simp⟩,h.bd⟩
theorem qH6.step(h:qH6 m q n j k sj row1 row2)(hm:0<m)(hj:j<k)(hk:k<n){z:Int}(hz:z=(vec row2 k-q*vec sj k)%m):qH6 m q n j (k+1) sj row1 (row2.set k z):=by
 have hl:=h.len;have e:∀t,vec (row2.set k z) t=if t=k then z else vec row2 t:=fun t=>qCt (by omega) z t;refine⟨by rw[List.length_set];exact hl,fun t ht=>by rw[e,if_neg (by omega)];exact h.low t ht,by rw[e,if_neg (by omega)];exact h.at_,fun t ht=>by rw[e,if_neg (by omega)];exact h.rest t (by omega),fun t h1 h2=> ?_,h.bd.set k ?_⟩
 ·rw[e]
  rcases Nat.lt_or_ge t k with h3|h3
  ·rw[if_neg (by omega)];exact h.dvd t h1 h3
  ·obtain rfl:t=k:=by omega
   rw[if_pos rfl,hz,h.rest t (Nat.le_refl _)];exact qGc m _
 ·rw[hz]
  have:=Int.emod_nonneg (vec row2 k-q*vec sj k) (show m≠0 by omega);have:=Int.emod_lt_of_pos (vec row2 k-q*vec sj k) hm;omega
theorem qH6.red{sq:List (List Int)}{row:Vec}(hT:qH0 m n 0 (sq.map vec))(hsq:sq.length=n)(h:qDK m n i ((sq.map vec).drop (i+1)) row (vec row1) j)(hij:i<j)(hjn:j<n)(hl1:row1.length=n)(hq:q=vec row1 j/vec (sq[j]'(by omega)) j)(hk:qH6 m q n j n (sq[j]'(by omega)) row1 row2):
 qDK m n i ((sq.map vec).drop (i+1)) row (vec row2) (j+1):=by
 have hlen:((sq.map vec).drop (i+1)).length=n-(i+1):=by simp[hsq]
 have e:∀hh:j-(i+1)<((sq.map vec).drop (i+1)).length,((sq.map vec).drop (i+1))[j-(i+1)]=vec (sq[j]'(by omega)):=fun hh=>by
  rw[List.getElem_drop,List.getElem_map]
  congr 2
  omega
 have hh:j-(i+1)<((sq.map vec).drop (i+1)).length:=by omega
 obtain⟨t1,t2,t3⟩:=hT.at_ j (by simp;omega);rw[List.getElem_map,Nat.zero_add]at t1 t2;rw[List.getElem_map]at t3;have hT2:=hT.drop (i+1) (by simp;omega);rw[Nat.zero_add]at hT2;exact h.step (q:=q) hij hjn hT2 hh (by rw[e hh];exact t1) (by rw[e hh];exact t2) (by rw[e hh];exact t3) (by rw[e hh];exact hq) hk.low (by rw[e hh];exact hk.at_) (by rw[e hh];exact hk.dvd) (fun t ht=>qAs (by rw[hk.len];exact ht))
end
structure qOj(m:Int)(n:Nat)(L0:List (List Int))(i:Nat)(L:List (List Int)):Prop where
 to:qDQ m n (L0.map vec) i (L.map vec)
 rest:∀t (h:t<L.length) (h':t<L0.length),i<=t->L[t]=L0[t]
 len:L.length=L0.length
 bd:∀r∈L,Bd m r
theorem qOj.start{m:Int}{n:Nat}{L:List (List Int)}(hb:∀r∈L,Bd m r):qOj m n L 0 L:=⟨qDQ.start _ _ _ _,fun _ _ _ _=>rfl,rfl,hb⟩
theorem qOj.step{m:Int}{n i:Nat}{L0 L:List (List Int)}{row':List Int}(h:qOj m n L0 i L)(hi:i<L.length)(hi':i<L0.length)(hs:qDK m n i ((L0.map vec).drop (i+1)) (vec L0[i]) (vec row') n)(hb:Bd m row'):qOj m n L0 (i+1) (L.set i row'):=by
 have hlen:=h.len;refine⟨?_,fun t ht ht' hit=> ?_,by rw[List.length_set];exact hlen,fun r hr=> ?_⟩
 ·rw[List.map_set]
  refine h.to.step (by simpa using hi') (by simpa using hi) ?_;rw[List.getElem_map];exact hs
 ·rw[List.getElem_set_ne (by omega)]
  exact h.rest t (by simpa using ht) ht' (by omega)
 ·rcases List.mem_or_eq_of_mem_set hr with h1|h1
  ·exact h.bd r h1
  ·rw[h1];exact hb
theorem qOj.done{m:Int}{n:Nat}{L0 L:List (List Int)}(h:qOj m n L0 L0.length L):qMd m n 0 (L0.map vec) (L.map vec):=by
 have:=h.to;exact qDQ.done (by simpa using this) (by simpa using h.len)
theorem qDK.first{m:Int}{n i:Nat}{rest:List Vec}{row:List Int}(hl:row.length=n):qDK m n i rest (vec row) (vec row) (i+1):=qDK.start (fun t ht=>qAs (by omega))
def dgL(m:Int)(n:Nat):List (List Int):=(List.range n).map (fun i=>(List.replicate n 0).set i m)
theorem qGi(m:Int)(n:Nat):(dgL m n).length=n:=by simp[dgL]
theorem qPK(m:Int)(n i:Nat)(h:i<n):(dgL m n)[i]'(by rw[qGi];exact h)=(List.replicate n 0).set i m:=by simp[dgL]
theorem qRj(m:Int)(n i:Nat)(hi:i<n):vec ((List.replicate n 0).set i m)=qCa m i:=by
 funext t
 rw[qCt (by simpa using hi)];unfold qCa
 split
 ·rfl
 ·unfold vec
  rcases Nat.lt_or_ge t n with h|h
  ·simp[h]
  ·rw[List.getElem?_eq_none (by simpa using h)];rfl
theorem qQS(m:Int)(n:Nat):(dgL m n).map vec=diag m 0 n:=by
 refine List.ext_getElem (by simp[qGi,qHT]) (fun i h1 h2=> ?_);simp only[List.length_map,qGi]at h1;rw[List.getElem_map,qPK m n i h1,qRj m n i h1,qKb,Nat.zero_add]
theorem qRM{m:Int}(hm:0<m)(n:Nat):∀r∈dgL m n,Bd m r:=by
 intro r hr x hx;obtain⟨i,_,rfl⟩:=List.mem_map.1 hr;rcases List.mem_or_eq_of_mem_set hx with h|h
 ·rw[(List.mem_replicate.1 h).2];omega
 ·omega
def cdL(m:Int)(ps:List Nat)(r:List Int):List Int:=ps.map (fun p=>vec r p%m)
theorem qHY{m:Int}{ps:List Nat}{r:List Int}:(cdL m ps r).length=ps.length:=by simp[cdL]
theorem qQY{m:Int}{ps:List Nat}{r:List Int}(t:Nat):vec (cdL m ps r) t=res ps (vec r) t%m:=by
 unfold cdL res;by_cases h:t<ps.length
 ·rw[dif_pos h,qAp (by simpa using h),List.getElem_map]
 ·rw[dif_neg h,qAs (by simp;omega)];simp
theorem qRO{m:Int}(hm:0<m)(ps:List Nat)(r:List Int):Bd m (cdL m ps r):=by
 intro x hx;obtain⟨p,_,rfl⟩:=List.mem_map.1 hx;have:=Int.emod_nonneg (vec r p) (show m≠0 by omega);have:=Int.emod_lt_of_pos (vec r p) hm;omega
structure SqL(m:Int)(ps:List Nat)(M0:List (List Int))(j:Nat)(sq:List (List Int)):Prop where
 to:qLg m ps.length (sq.map vec) ((M0.take j).map (fun r=>res ps (vec r)))
 bd:∀r∈sq,Bd m r
theorem SqL.start{m:Int}(hm:0<m)(ps:List Nat)(M0:List (List Int)):SqL m ps M0 0 (dgL m ps.length):=
 ⟨by rw[qQS];simpa using qLg.start hm ps.length,qRM hm _⟩
theorem SqL.step{m:Int}{ps:List Nat}{M0 sq sq':List (List Int)}{j:Nat}(h:SqL m ps M0 j sq)(hj:j<M0.length)(hi:Ins m ps.length 0 (sq.map vec) (vec (cdL m ps M0[j])) (sq'.map vec))(hb:∀r∈sq',Bd m r):SqL m ps M0 (j+1) sq':=by
 refine⟨?_,hb⟩;rw[List.take_succ_eq_append_getElem hj,List.map_append,List.map_singleton];refine h.to.step (fun t ht=> ?_) (fun t ht=>qAs (by rw[qHY];exact ht)) (fun t=> ?_) hi
 ·unfold res
  rw[dif_neg (by omega)]
 ·rw[qQY]
  exact qGc m _
end Go.Proofs.YtkjhlkngihponaaGreatDoor
