/- lattice.Hermite, lattice.Independent. -/
import Derived.Test.YtkjhlkngihponaaGreatDoorQKLElP
import Derived.Test.YtkjhlkngihponaaGreatDoorQKLOwn
import Derived.Test.YtkjhlkngihponaaGreatDoorQKLRedP
import Derived.Test.YtkjhlkngihponaaGreatDoorQKLSmall
import Derived.Test.YtkjhlkngihponaaGreatDoorQKWDivide
set_option linter.unusedVariables false
set_option linter.unusedSimpArgs false
set_option maxHeartbeats 16000000
set_option maxRecDepth 100000
namespace Go.Proofs.YtkjhlkngihponaaGreatDoor
open Go.RowKit
theorem qQA:(Tryz.prog.info? 3).map (fun i=>(i.zero,i.size,i.bytes))=some (some (.int .i64 0),1,8):=by kernel_rfl
def LnS(B:Nat)(l:List Ln)(b:Nat):Prop:=b=B\/ ∃i,∃h:i<l.length,b=l[i].1
theorem LnS.swap{B b:Nat}{l:List Ln}{i k:Nat}{hi:i<l.length}{hk:k<l.length}(h:LnS B (qAH l i k hi hk) b):LnS B l b:=by
 rcases h with h|⟨q,hq,rfl⟩
 ·exact .inl h
 ·rw[qAe]at hq
  rw[qAx q hq]
  split
  ·exact .inr ⟨i,hi,rfl⟩
  ·split
   ·exact .inr ⟨k,hk,rfl⟩
   ·exact .inr ⟨q,hq,rfl⟩
theorem qCk.off{w:World}{B n g o1 o2:Nat}{l:List Ln}{M:List (List Int)}{s:Bool}{a:Option Addr}{n' c:Nat}(h:qCk w B l n M)(hg:qAi w g)(hne:∀b,LnS B l b->b≠g):qCk (st2 w g o1 o2 s a n' c) B l n M:=
 h.only (S:=fun b=>b=g) ((qAc.refl _ _).off' (.inl rfl)) (fun b e=>e▸hg) (hne B (.inl rfl)) (fun i hi=>hne _ (.inr ⟨i,hi,rfl⟩))
theorem qCY.off{w:World}{base size n g o1 o2:Nat}{e:TypeId}{v:Value}{xs:List Value}{s':Bool}{a':Option Addr}{n' c':Nat}(h:qCY w base e size v n xs)(hne:∀k,v.ownBlock=some k->k≠g):qCY (st2 w g o1 o2 s' a' n' c') base e size v n xs:=
 h.only (S:=fun b=>b=g) ((qAc.refl _ _).off' (.inl rfl)) hne
theorem qPh{M:List (List Int)}{a b:Nat}(ha:a<M.length)(hb:b<M.length)(j:Nat):ent (qAH M a b ha hb) a j=ent M b j:=by
 unfold ent;rw[List.getElem?_eq_getElem (by rw[qAe];exact ha),List.getElem?_eq_getElem hb,qAx a ha];by_cases e:a=b
 ·subst e;simp
 ·simp[e]
theorem qOC{S T:Nat->Prop}{w0 w w':World}(h:qAc S w0 w)(h2:qAc T w w')(hT:∀b,T b->w0.heap.size<=b):qAc S w0 w':=
 ⟨h2.os.trans h.os,h2.tape.trans h.tape,h2.output.trans h.output,Nat.le_trans h.size h2.size,fun k hk hn=>(h2.block k (Nat.lt_of_lt_of_le hk h.size) (fun e=>by have:=hT k e;omega)).trans (h.block k hk hn)⟩
theorem qPB{α:Type}{A B:List α}{i k:Nat}(h:A.length=B.length)(hi:i<=B.length)(hk:k<B.length):(A.take i++B.drop i)[k]'(by rw[qC8 h hi];exact hk)=if k<i then A[k]'(by omega)else B[k]:=by
 by_cases e:k<i
 ·rw[if_pos e,List.getElem_append_left (by simp;omega),List.getElem_take]
 ·rw[if_neg e,List.getElem_append_right (by simp;omega),List.getElem_drop]
  congr 1
  simp;omega
theorem qHX(w:World)(v:Value)(t:TypeId):∀j u,[v][j]? =some u->(w.alloc (.cells #[v] t)).cell? ((⟨w.heap.size,0,none⟩:Addr).add j)=some u:=by
 intro j u h
 match j,h with
 |0,h=>simp at h;subst h;exact(One.new w t v).cell
 |j+1,h=>simp at h
theorem qP0{α:Type}{A B:List α}{j:Nat}(h:A.length=B.length)(hj:j<B.length)(he:A[j]'(by omega)=B[j]):A.take j++B.drop j=A.take (j+1)++B.drop (j+1):=by
 rw[<-qCW h hj];refine List.ext_getElem (by simp) (fun k h1 h2=> ?_);rw[List.getElem_set]
 split
 ·next e=>subst e;rw[qOs h hj,he]
 ·rfl
def qPy(w0:World)(B n:Nat)(l:List Ln)(M:List (List Int))(e:Ending)(w':World):Prop:=
 ∃vp s a c' n' d l' M' ps col,e=.returned (.tuple #[vp,.agg #[.bool s,.slice a n' c']])/\qAr w' (.agg #[.bool s,.slice a n' c']) d/\qAg w' vp (ps.map (fun(p:Nat)=>(p:Int)))/\qCk w' B l' n M'/\l'.length=l.length/\
  qBi M M' ps d col/\(∀i,∀h:i<M'.length,ps.length<=i->∀j,vec M'[i] j=0)/\(∀p∈ps,p<n)/\qAc (LnS B l) w0 w'
theorem qBi.rest{M0 M:List (List Int)}{ps:List Nat}{d:Int}{n:Nat}(h:qBi M0 M ps d n)(hn:∀r∈M,r.length=n):∀i,∀h:i<M.length,ps.length<=i->∀j,vec M[i] j=0:=by
 obtain⟨A,e1,e2,e3,-⟩:=h;intro i hi hp j;rcases Nat.lt_or_ge j n with hj|hj
 ·have:=e3.zero i (by simpa using hi) hp j hj
  simpa using this
 ·exact qAs (by rw[hn _ (List.getElem_mem _)];exact hj)
theorem qBi.plt{M0 M:List (List Int)}{ps:List Nat}{d:Int}{col:Nat}(h:qBi M0 M ps d col):∀p∈ps,p<col:=by obtain⟨A,e1,e2,e3,-⟩:=h;exact e3.lt
theorem qCk.rowsN{w:World}{B n:Nat}{l:List Ln}{M:List (List Int)}(h:qCk w B l n M):∀r∈M,r.length=n:=by
 intro r hr;obtain⟨i,hi,rfl⟩:=List.mem_iff_getElem.1 hr;exact(h.row i (by rw[<-h.len];exact hi)).2
theorem qCk.rowLt{w:World}{B n:Nat}{l:List Ln}{M:List (List Int)}(h:qCk w B l n M)(i:Nat)(hi:i<l.length):l[i].1<w.heap.size:=(h.row i hi).1.lt
theorem qHR(w0:World)(B cB n:Nat)(l0:List Ln)(M0:List (List Int))(h:qCk w0 B l0 n M0)(hl0:0<l0.length)(hcB:l0.length<=cB)(hcB2:cB<=9223372036854775807)(hn:n<=1000)(hs:Sml M0):
 Calls Tryz.prog 146 #[.slice (some ⟨B,0,none⟩) l0.length cB] w0 (qPy w0 B n l0 M0):=by
 obtain⟨i0,hi,hz0,hz1,hz2⟩:=info_parts qQA;have Hi:=hZ hi;have Hz0:=hZ hz0;have Hz1:=hZ hz1;have Hz2:=hZ hz2;clear hi hz0 hz1 hz2;have K:=hZ h;have HO:=hZ (qAc.refl (LnS B l0) w0);have HS:=hZ hs;have hl64:l0.length<=64:=by rw[<-h.len];exact hs.1
 have HE:=hZ (qBi.start M0);have HB0:=hZ h.lt;have HL:Hid (∀b,LnS B l0 b->LnS B l0 b):=hZ (fun _ h=>h);have HLT0:Hid (∀b,LnS B l0 b->b<w0.heap.size):=hZ (fun b hb=>by
  rcases hb with rfl|⟨i,hi,rfl⟩
  ·exact h.lt
  ·exact h.rowLt i hi)
 clear h hs;obtain⟨w1,hw⟩:=eX (w0.alloc (.cells #[.bool false,.slice none 0 0] 73));have hB:=aB hw;obtain⟨br,hb⟩:=eX w0.heap.size;have Tr':Hid (Two w1 br 73 (.bool false) (.slice none 0 0)):=hZ (by rw[<-hw,<-hb];exact Two.new w0 73 (.bool false) (.slice none 0 0));have Hbr:Hid (w0.heap.size<=br):=hZ (by omega);replace K:=K.b hB;replace HO:=HO.b hB;clear hB;have Tr:=Tr';clear Tr'
 go_enter Tryz.func146,Tryz.ntmps146
 go_wp2_with fail
 clear hw hb;refine(qIR (w:=w1) 1 (by omega) (by omega)).mono ?_;rintro e w2 ⟨s_u,a_u,n_u,c_u,rfl,h_u,hB⟩;have Vu:=hZ h_u;replace K:=K.b hB;replace Tr:=Tr.b hB;replace HO:=HO.b hB;clear hB;clear h_u;have Hlr:=hZ Tr.o.lt;obtain⟨w3,hw⟩:=eX ((w2.alloc (.cells #[.bool s_u,.slice a_u n_u c_u] 73)));have hB:=aB hw;obtain⟨bd,hb_bd⟩:=eX w2.heap.size;have h9:=Bx.new (w:=w2) Vu.o;rw[hw,hb_bd]at h9;have Fd':=hZ h9;have hge_bd:w2.heap.size<=bd:=by omega
 clear h9;replace K:=K.b hB;replace Tr:=Tr.b hB;replace Vu:=Vu.b hB;replace HO:=HO.b hB;have Fd:=Fd';clear Fd';clear hB;have Hbd:Hid (br<bd):=hZ (by have:=Hlr.o;omega);clear hge_bd Hlr;have hl1:(0:Int)<(l0.length:Int):=by omega
 have hl2:((l0.length:Int)==0)=false:=by rw[beq_eq_false_iff_ne];omega
 have hl3:(l0.length==0)=false:=by rw[beq_eq_false_iff_ne];omega
 obtain⟨x0,x1⟩:=K.o.get 0 hl0;simp only[Nat.zero_mul]at x0 x1;generalize l0[0].1=g0 at *;generalize l0[0].2.1=gc0 at *
 go_wp2_with fail
 clear hw hb_bd;clear Vu;clear x0 x1 hl2 hl3;obtain⟨B0,hB0⟩:=eX w3.heap.size;have HB1:Hid (br<B0/\bd<B0/\w0.heap.size<=B0):=hZ (by rw[<-hB0];exact⟨Tr.o.lt,Fd.o.lt,HO.o.size⟩);have Wp:Hid (qCY w3 B0 3 1 (.slice none 0 0) ([]:List Nat).length (([]:List Nat).map (iv .i64))):=hZ (qCY.nil _ _ _ _);have Hsz:Hid (B0<=w3.heap.size):=hZ (by omega);clear hB0
 go_loopw [22,5] (fun i vp wr=>∃(j:Nat) (l:List Ln) (M:List (List Int)) (ps:List Nat) (d:Int),j<=n/\i=.int .i64 j/\Hid (qBi M0 M ps d j)/\Hid (qCk wr B l n M)/\Hid (l.length=l0.length/\∀b,LnS B l b->LnS B l0 b)/\Hid (Two wr br 73 (.bool false) (.slice none 0 0))/\Hid (Bx wr bd d)/\Hid (qCY wr B0 3 1 vp ps.length (ps.map (iv .i64)))/\Hid (B0<=wr.heap.size)/\Hid (qAc (LnS B l0) w0 wr)) (fun i _ _=>n-(intOf i).toNat)
 case atStart=>exact⟨0,l0,M0,[],1,by omega,rfl,HE,K,hZ ⟨rfl,HL.o⟩,Tr,Fd,Wp,Hsz,HO⟩
 case round=>
  clear HE K Tr Fd Wp Hsz HO HL;obtain⟨j,l,M,ps,d,hj,rfl,HE,K,HL,Tr,Fd,Wp,Hsz,HO⟩:=hrel;obtain⟨w3,rfl⟩:=eY wr;obtain⟨pa,pc,hv,hpc1,hpc2⟩:=Wp.o.form;subst hv;have hl:=HL.o.1;have hlm:=K.o.len;have hpl:ps.length<=l.length:=by have:=HE.o.le;omega
  by_cases hlt:j<n
  ·skip
   have i1:(0:Int)<=(j:Int):=by omega
   have i2:(j:Int)<(n:Int):=by omega
   obtain⟨w4,hw⟩:=eX (w3.alloc (.cells #[.int .i64 (j:Int)] 3));have hB:=aB hw;obtain⟨bc,hb⟩:=eX w3.heap.size;have Oc':Hid (One w4 bc 3 (.int .i64 (j:Int))):=hZ (by rw[<-hw,<-hb];exact One.new _ _ _);have Hbc:Hid (B0<=bc/\∀k,(Value.slice pa ps.length pc).ownBlock=some k->k<bc):=hZ ⟨by have:=Hsz.o;omega,fun k hk=>by have:=(Wp.o.lt k hk).2;omega⟩;have Hrows:Hid (∀b,LnS B l b->b<w0.heap.size):=hZ (fun b hb2=>HLT0.o b (HL.o.2 b hb2));replace Hsz:=hZ (Nat.le_trans Hsz.o hB.size);replace K:=K.b hB;replace Tr:=Tr.b hB;replace Fd:=Fd.b hB;replace Wp:=Wp.b hB;replace HO:=HO.b hB;clear hB;have Oc:=Oc';clear Oc';by_cases hpe:ps.length=l.length
   ·skip
    have s1:((ps.length:Int)==(l.length:Int))=true:=by simp[hpe]
    have s2:(ps.length==l.length)=true:=by simp[hpe]
    have s3:((ps.length:Int)==(l0.length:Int))=true:=by rw[<-hl];exact s1
    have s4:(ps.length==l0.length)=true:=by rw[<-hl];exact s2
    have Hpe:=hZ hpe;clear hpe
    go_wp2_with fail
    clear hw hb s1 s2 s3 s4;obtain⟨w5,hwd⟩:=eX w4.drew;have hB:=dB hwd;replace K:=K.b hB;replace Tr:=Tr.b hB;replace Fd:=Fd.b hB;replace Wp:=Wp.b hB;replace Oc:=Oc.b hB;replace HO:=HO.b hB;clear hB;have HBr:Hid (qAc (fun b=>False) w5 w5):=hZ (qAc.refl _ _);refine qAU [3] (fun w'=>qAc (fun b=>False) w5 w') (by kernel_rfl) (by rw[hwd];exact qAc.refl _ _) (fun hHeld=> ?_);rw[hwd]at hHeld ⊢;clear hwd;obtain⟨s_d,a_d,n_d,c_d,t_d,h_d⟩:=Fd.o;have d0d:=t_d.cell0;have d1d:=t_d.cell1;have Vd:=hZ h_d;clear t_d h_d;refine pU 0 68 ?_;refine tV 1 69 (cF d0d Fd.o.lt) (cF d1d Fd.o.lt) ?_;clear d0d d1d;refine pU 2 2 ?_;have e0:=Tr.o.cell0;have e1:=Tr.o.cell1;have e2:=Tr.o.frozen 0;have e3:=Tr.o.frozen 1;have hn9:qAi w5 (br):=Tr.o.noInt (fun _ h=>by cases h) (fun _ h=>by cases h);obtain⟨w6,hw⟩:=eX ((w5.setCell ⟨br,0,none⟩ (.bool s_d)).setCell ⟨br,1,none⟩ (.slice a_d n_d c_d));have hw2:st2 w5 (br) (0) (1) s_d a_d n_d c_d=w6:=hw;replace Tr:=hZ (Two.put1 (s:=s_d) (a:=a_d) (n:=n_d) (c:=c_d) Tr.o);rw[hw2]at Tr;replace K:=hZ (qCk.off (g:=br) (o1:=0) (o2:=1) (s:=s_d) (a:=a_d) (n':=n_d) (c:=c_d) K.o hn9 (fun b hb=>by have h1:=HLT0.o b (HL.o.2 b hb);have h2:=Hbr.o;have h3:=Hbd.o;omega));rw[hw2]at K;replace Fd:=hZ (Fd.o.offe hw2 hn9 (by have:=Hbd.o;have:=HB1.o;first|omega|(have:=Hbc.o;omega)));replace Wp:=hZ (qCY.off (g:=br) (o1:=0) (o2:=1) (s':=s_d) (a':=a_d) (n':=n_d) (c':=c_d) Wp.o (fun k hk=>by have h1:=(Wp.o.lt k hk).1;have h2:=HB1.o;omega));rw[hw2]at Wp;replace Oc:=hZ (Oc.o.offe hw2 (by have:=Hbd.o;have:=HB1.o;first|omega|(have:=Hbc.o;omega)));replace Vd:=hZ (Vd.o.offe hw2 hn9);replace HO:=hZ (HO.o.offe hw2 (Or.inr Hbr.o));clear hw2 hn9;refine lU 3 fun K hK=> ?_;go_simp
    try rw[hw]
    refine hK.out _ _ ?_;clear hK K
    try simp only[Act.put,sX1,sX2,sX3]
    clear hw e0 e1 e2 e3;refine dU ?_;clear hHeld;have g0:=Tr.o.cell0;have g1:=Tr.o.cell1
    go_wp2_with fail
    exact bodyPost_ret (v:=.tuple #[.slice pa ps.length pc,.agg #[.bool s_d,.slice a_d n_d c_d]]) (by simp[results,Tryz.results146,go_sem,g0,g1]) rfl ⟨_,_,_,_,_,d,l,M,ps,_,rfl,Vd.o,Wp.o.ints,K.o,HL.o.1,HE.o,fun i hi hp=>by have:=Hpe.o;have:=K.o.len;omega,fun p hp=>Nat.lt_of_lt_of_le (HE.o.plt p hp) hj,HO.o⟩
   ·skip
    have s1:((ps.length:Int)==(l.length:Int))=false:=by rw[beq_eq_false_iff_ne];omega
    have s2:(ps.length==l.length)=false:=by rw[beq_eq_false_iff_ne];omega
    have s3:((ps.length:Int)==(l0.length:Int))=false:=by rw[<-hl];exact s1
    have s4:(ps.length==l0.length)=false:=by rw[<-hl];exact s2
    have dc:=Oc.o.cell;have hbd:=Hbd.o
    go_wp2_with fail
    clear hw hb s1 s2 s3 s4 dc hbd;have hLd:=qOT w4 B cB n ps.length j l M K.o (by omega) (by omega) hcB2 hpl hlt hn (HE.o.sz HS.o);rw[hl]at hLd;have HLd:=hZ hLd;clear hLd;refine HLd.o.mono ?_;rintro e w5 ⟨ho,hP⟩;clear HLd;have hN:∀b,b=B->qAi w4 b:=fun b e=>e▸K.o.noInt;have HBb:Hid (B<w0.heap.size):=HB0;rcases hP with ⟨rfl,hz,hK⟩|⟨i,hi,hp,hi',hp',hpi,hci,rfl,hK⟩
    ·skip
     replace K:=hZ (hK);replace Tr:=hZ (Tr.o.only ho (by intro (e:_=B);have:=HB0.o;have:=Hbr.o;have:=Hbd.o;have:=HB1.o;have:=Hbc.o;omega));replace Fd:=hZ (Fd.o.only ho hN (by intro (e:_=B);have:=HB0.o;have:=Hbr.o;have:=Hbd.o;have:=HB1.o;have:=Hbc.o;omega));replace Wp:=hZ (Wp.o.only ho (by intro g hg (e:g=B);have:=(Wp.o.lt g hg).1;have:=HB0.o;have:=HB1.o;omega));replace Oc:=hZ (Oc.o.only ho (by intro (e:_=B);have:=HB0.o;have:=Hbr.o;have:=Hbd.o;have:=HB1.o;have:=Hbc.o;omega));replace HO:=hZ (HO.o.trans (ho.mono (fun b e=>e▸ .inl rfl)));replace Hsz:=hZ (Nat.le_trans Hsz.o ho.size);clear ho hN hK
     go_wp2_with fail
     go_roundw
     case rel=>exact⟨j+1,l,M,ps,d,by omega,by go_num,hZ (HE.o.skip (fun q h1 h2=>hz q h1 (by have:=K.o.len;omega))),K,HL,Tr,Fd,Wp,Hsz,HO⟩
     case measure=>simp[intOf];omega
    ·skip
     replace K:=hZ (hK);replace Tr:=hZ (Tr.o.only ho (by intro (e:_=B);have:=HB0.o;have:=Hbr.o;have:=Hbd.o;have:=HB1.o;have:=Hbc.o;omega));replace Fd:=hZ (Fd.o.only ho hN (by intro (e:_=B);have:=HB0.o;have:=Hbr.o;have:=Hbd.o;have:=HB1.o;have:=Hbc.o;omega));replace Wp:=hZ (Wp.o.only ho (by intro g hg (e:g=B);have:=(Wp.o.lt g hg).1;have:=HB0.o;have:=HB1.o;omega));replace Oc:=hZ (Oc.o.only ho (by intro (e:_=B);have:=HB0.o;have:=Hbr.o;have:=Hbd.o;have:=HB1.o;have:=Hbc.o;omega));replace HO:=hZ (HO.o.trans (ho.mono (fun b e=>e▸ .inl rfl)));replace Hsz:=hZ (Nat.le_trans Hsz.o ho.size);clear ho hN hK;have HE1:=hZ (HE.o.swap ps.length i hp' hi' (Nat.le_refl _) hpi);have HC1:Hid (ent (qAH M ps.length i hp' hi') ps.length j≠0):=hZ (by rw[qPh];exact hci);have hplt:ps.length<l0.length:=by omega
     have HL1:Hid ((qAH l ps.length i hp hi).length=l0.length/\∀b,LnS B (qAH l ps.length i hp hi) b->LnS B l0 b):=hZ ⟨by rw[qAe];exact hl,fun b hb=>HL.o.2 b hb.swap⟩;clear HE hci HL;generalize qAH M ps.length i hp' hi'=M1 at *;generalize qAH l ps.length i hp hi=l1 at *;clear hi' hp' hp hi hpi i hlm hpl hpe;have HL:=HL1;clear HL1;have hl':=HL.o.1;have hlm:=K.o.len;have hp1:ps.length<l1.length:=by omega
     have hpM:ps.length<M1.length:=by omega
     obtain⟨x0,x1⟩:=K.o.get ps.length hp1;have hcap:=K.o.cap ps.length hp1;obtain⟨gp,hgp⟩:=eX (l1[ps.length].1);obtain⟨cp,hcp⟩:=eX (l1[ps.length].2.1);have Hgp:=hZ hgp;rw[hgp,hcp]at x0;rw[hcp]at hcap;obtain⟨hcap1,hcap2⟩:=hcap;clear x1 hcp;have k1:(0:Int)<=(ps.length:Int):=by omega
     have k2:(ps.length:Int)<(l0.length:Int):=by omega
     obtain⟨w6,hw⟩:=eX (w5.alloc (.cells #[.slice (some ⟨gp,0,none⟩) n cp] 77));have hB:=aB hw;obtain⟨bp,hb⟩:=eX w5.heap.size;have Op':Hid (One w6 bp 77 (.slice (some ⟨gp,0,none⟩) n cp)):=hZ (by rw[<-hw,<-hb];exact One.new _ _ _);have Hbp:Hid (bc<bp):=hZ (by rw[<-hb];exact Oc.o.lt);replace Hsz:=hZ (Nat.le_trans Hsz.o hB.size);replace K:=K.b hB;replace Tr:=Tr.b hB;replace Fd:=Fd.b hB;replace Wp:=Wp.b hB;replace Oc:=Oc.b hB;replace HO:=HO.b hB;clear hB;have Op:=Op';clear Op';obtain⟨hrow,hrl⟩:=K.o.row ps.length hp1;obtain⟨s_h,a_h,n_h,c_h,d0h,d1h,h_h⟩:=hrow.get j (by omega);have he:ent M1 ps.length j=(M1[ps.length]'hpM)[j]'(by omega):=qNH hpM (by omega);rw[<-he]at h_h;rw[hgp]at d0h d1h;have Vh:=hZ h_h;clear h_h hrow hrl he hgp;have Sh:Hid (Sz 4000 (ent M1 ps.length j)):=hZ (by have hz:=HE1.o.sz HS.o;have hl9:=K.o.rowsN _ (List.getElem_mem hpM);rw[qNH hpM (by omega)];exact hz _ (List.getElem_mem _) _ (List.getElem_mem _));have dp:=Op.o.cell;have dc:=Oc.o.cell;obtain⟨h,hh⟩:=eX (ent M1 ps.length j);have Hh:=hZ hh;rw[hh]at Vh Sh HC1;clear hh;have Hlt:=hZ Op.o.lt;obtain⟨w7,hw⟩:=eX ((w6.alloc (.cells #[.bool s_h,.slice a_h n_h c_h] 73)));have hB:=aB hw;obtain⟨bh,hb_bh⟩:=eX w6.heap.size;have h9:=Bx.new (w:=w6) Vh.o;rw[hw,hb_bh]at h9;have Fh':=hZ h9;have hge_bh:w6.heap.size<=bh:=by omega
     clear h9;replace K:=K.b hB;replace Tr:=Tr.b hB;replace Fd:=Fd.b hB;replace Wp:=Wp.b hB;replace Oc:=Oc.b hB;replace Op:=Op.b hB;replace Vh:=Vh.b hB;replace HO:=HO.b hB;have Fh:=Fh';clear Fh';clear hB;have Hbh:Hid (bp<bh):=hZ (by have:=Hlt.o;omega);replace Hsz:Hid (B0<=w7.heap.size):=hZ (by have:=Fh.o.lt;have:=Hbh.o;have:=Hbp.o;have:=Hbc.o;omega);clear Hlt hge_bh
     go_wp2_with fail
     clear hb;clear hb_bh d0h d1h dp dc x0 k1 k2;clear Vh;have HTl:Hid ((qDS M1 ps.length j d).length=M1.length):=hZ qBx;have Sd:=hZ (HE1.o.dsz HS.o);have D0:=hZ HE1.o.d0;have HP1:=hZ K.o.rowsN
     go_loopw [48] (fun x wr=>∃i:Nat,i<=l0.length/\x=.int .i64 i/\Hid (qCk wr B l1 n ((qDS M1 ps.length j d).take i++M1.drop i))/\Hid (Two wr br 73 (.bool false) (.slice none 0 0))/\Hid (Bx wr bd d)/\Hid (qCY wr B0 3 1 (.slice pa ps.length pc) ps.length (ps.map (iv .i64)))/\Hid (One wr bc 3 (.int .i64 (j:Int)))/\Hid (One wr bp 77 (.slice (some ⟨gp,0,none⟩) n cp))/\Hid (Bx wr bh h)/\Hid (B0<=wr.heap.size)/\Hid (qAc (LnS B l0) w0 wr)) (fun x _=>l0.length-(intOf x).toNat)
     case atStart=>exact⟨0,by omega,rfl,hZ (by simpa using K.o),Tr,Fd,Wp,Oc,Op,Fh,Hsz,HO⟩
     case round=>
      clear K Tr Fd Wp Oc Op Fh Hsz HO;obtain⟨i,hi,rfl,K,Tr,Fd,Wp,Oc,Op,Fh,Hsz,HO⟩:=hrel;obtain⟨w7,rfl⟩:=eY wr;by_cases hil:i<l0.length
      ·skip
       have k1:(0:Int)<=(i:Int):=by omega
       have k2:(i:Int)<(l0.length:Int):=by omega
       have hi1:i<l1.length:=by omega
       have hiM:i<M1.length:=by omega
       by_cases hip:i=ps.length
       ·skip
        have s1:((i:Int) != (ps.length:Int))=false:=by simp[hip]
        have s2:(i != ps.length)=false:=by simp[hip]
        have s3:((i:Int)==(ps.length:Int))=true:=by simp[hip]
        have s4:(i==ps.length)=true:=by simp[hip]
        have Hip:=hZ hip;clear hip
        go_wp2_with fail
        go_roundw
        case rel=>exact⟨i+1,by omega,by go_num,hZ (by have h1:=K.o;rw[qP0 HTl.o hiM (by rw[qCm hiM hpM,if_pos Hip.o])]at h1;exact h1),Tr,Fd,Wp,Oc,Op,Fh,Hsz,HO⟩
        case measure=>simp[intOf];omega
       ·skip
        have s1:((i:Int) != (ps.length:Int))=true:=by simp;omega
        have s2:(i != ps.length)=true:=by simp;omega
        have s3:((i:Int)==(ps.length:Int))=false:=by rw[beq_eq_false_iff_ne];omega
        have s4:(i==ps.length)=false:=by rw[beq_eq_false_iff_ne];omega
        obtain⟨x0,x1⟩:=K.o.get i hi1;have hcap:=K.o.cap i hi1;obtain⟨gi,hgi⟩:=eX (l1[i].1);obtain⟨ci,hci⟩:=eX (l1[i].2.1);rw[hgi,hci]at x0;rw[hci]at hcap;obtain⟨hcap3,hcap4⟩:=hcap;clear x1 hci;have Hgi:=hZ hgi;clear hgi
        go_wp2_with fail
        clear x0 s1 s2 s3 s4;have Htd:((qDS M1 ps.length j d).take i++M1.drop i).length=M1.length:=qC8 HTl.o (by omega);obtain⟨hri,hrl⟩:=K.o.row i hi1;rw[Hgi.o]at hri;rw[qPB HTl.o (by omega) hiM,if_neg (by omega)]at hri hrl;obtain⟨hrp,hpl⟩:=K.o.row ps.length hp1;rw[Hgp.o]at hrp;have hpe:((qDS M1 ps.length j d).take i++M1.drop i)[ps.length]'(by omega)=M1[ps.length]:=by rw[qPB HTl.o (by omega) hpM];split;rw[qCm hpM hpM,if_pos rfl];rfl
        rw[hpe]at hrp hpl;have hgg:gp≠gi:=by rw[<-Hgp.o,<-Hgi.o];exact K.o.nodup _ _ hp1 hi1 (fun e=>hip e.symm)
        have hgw:gi<w0.heap.size:=HLT0.o gi (HL.o.2 gi (.inr ⟨i,hi1,Hgi.o.symm⟩));have hblk:bc≠gi/\bh≠gi/\bp≠gi/\bd≠gi/\br≠gi:=by have:=Hbr.o;have:=Hbd.o;have:=HB1.o;have:=Hbc.o;have:=Hbp.o;have:=Hbh.o;omega
        have hsz:=HE1.o.sz HS.o;have hji:j<M1[i].length:=by omega
        have hO:=qJL w7 gi gp bc bh bp bd n ci cp j M1[i] M1[ps.length] h ((M1[i])[j]'hji) d hri hrp hrl hpl hn hcap3 hcap4 hcap1 hcap2 hlt rfl Oc.o Fh.o Op.o Fd.o D0.o ⟨hgg,hblk.1,hblk.2.1,hblk.2.2.1,hblk.2.2.2.1⟩ (hsz _ (List.getElem_mem _)) (hsz _ (List.getElem_mem _)) Sh.o Sd.o;have HOp:=hZ hO;have HN:Hid (∀b,b=gi->qAi w7 b):=hZ (fun b e=>e▸hri.noInt);have Hblk:=hZ hblk;have Hgw:=hZ hgw;have Hrl:=hZ (And.intro hrl hpl);clear hO hri hrl hrp hpl hpe hgg hgw hblk hsz;refine HOp.o.mono ?_;rintro e w8 ⟨⟨v,rfl⟩,hr,ho⟩;clear HOp;have hK:=K.o.turn (i:=i) hi1 (qHA (h:=h) (f:=(M1[i])[j]'(by have:=Hrl.o;omega)) (d:=d) Hrl.o.1 Hrl.o.2) (by rw[Hgi.o];exact hr) (by rw[Hgi.o];exact ho);have hst:qEu h ((M1[i])[j]'hji) d M1[i] M1[ps.length]=(qDS M1 ps.length j d)[i]'(by rw[HTl.o];exact hiM):=by rw[qCm hiM hpM,if_neg hip,Hh.o,qAp (by have:=Hrl.o;omega)]
        rw[hst,qCW HTl.o hiM]at hK;have hN:=HN.o;clear hst hr;replace K:=hZ (hK);replace Tr:=hZ (Tr.o.only ho (by intro (e:_=gi);have:=Hblk.o;omega));replace Fd:=hZ (Fd.o.only ho hN (by intro (e:_=gi);have:=Hblk.o;omega));replace Wp:=hZ (Wp.o.only ho (by intro g hg (e:g=gi);have:=(Wp.o.lt g hg).1;have:=Hgw.o;have:=HB1.o;omega));replace Oc:=hZ (Oc.o.only ho (by intro (e:_=gi);have:=Hblk.o;omega));replace Op:=hZ (Op.o.only ho (by intro (e:_=gi);have:=Hblk.o;omega));replace Fh:=hZ (Fh.o.only ho hN (by intro (e:_=gi);have:=Hblk.o;omega));replace HO:=hZ (HO.o.trans (ho.mono (fun b e=>e▸HL.o.2 gi (.inr ⟨i,hi1,Hgi.o.symm⟩))));replace Hsz:=hZ (Nat.le_trans Hsz.o ho.size);clear ho hN hK HN Hblk Hgw Hrl
        go_wp2_with fail
        go_roundw
        case rel=>exact⟨i+1,by omega,by go_num,K,Tr,Fd,Wp,Oc,Op,Fh,Hsz,HO⟩
        case measure=>simp[intOf];omega
      ·skip
       replace K:Hid (qCk w7 B l1 n (qDS M1 ps.length j d)):=hZ (by have h1:=K.o;have h2:=HTl.o;rw[List.take_of_length_le (by omega),List.drop_eq_nil_of_le (by omega),List.append_nil]at h1;exact h1);obtain⟨s_h,a_h,n_h,c_h,t_h,h_h⟩:=Fh.o;have d0h:=t_h.cell0;have d1h:=t_h.cell1;have Vh:=hZ h_h;clear t_h h_h;obtain⟨s_9,a_9,n_9,c_9,t_9,-⟩:=Fd.o;have e0:=t_9.cell0;have e1:=t_9.cell1;have e2:=t_9.frozen 0;have e3:=t_9.frozen 1;clear t_9;have hn9:qAi w7 (bd):=Fd.o.noInt;obtain⟨w8,hw⟩:=eX ((w7.setCell ⟨bd,0,none⟩ (.bool s_h)).setCell ⟨bd,1,none⟩ (.slice a_h n_h c_h));have hw2:st2 w7 (bd) (0) (1) s_h a_h n_h c_h=w8:=hw;replace Fd:=hZ (Bx.put Fd.o Vh.o);rw[hw2]at Fd;replace K:=hZ (qCk.off (g:=bd) (o1:=0) (o2:=1) (s:=s_h) (a:=a_h) (n':=n_h) (c:=c_h) K.o hn9 (fun b hb=>by have h1:=HLT0.o b (HL.o.2 b hb);have h2:=Hbr.o;have h3:=Hbd.o;omega));rw[hw2]at K;replace Tr:=hZ (Tr.o.offe hw2 (by have:=Hbd.o;have:=HB1.o;have:=Hbc.o;have:=Hbp.o;have:=Hbh.o;omega));replace Wp:=hZ (qCY.off (g:=bd) (o1:=0) (o2:=1) (s':=s_h) (a':=a_h) (n':=n_h) (c':=c_h) Wp.o (fun k hk=>by have h1:=(Wp.o.lt k hk).1;have h2:=HB1.o;omega));rw[hw2]at Wp;replace Oc:=hZ (Oc.o.offe hw2 (by have:=Hbd.o;have:=HB1.o;have:=Hbc.o;have:=Hbp.o;have:=Hbh.o;omega));replace Op:=hZ (Op.o.offe hw2 (by have:=Hbd.o;have:=HB1.o;have:=Hbc.o;have:=Hbp.o;have:=Hbh.o;omega));replace Fh:=hZ (Fh.o.offe hw2 hn9 (by have:=Hbd.o;have:=HB1.o;have:=Hbc.o;have:=Hbp.o;have:=Hbh.o;omega));replace Vh:=hZ (Vh.o.offe hw2 hn9);replace HO:=hZ (HO.o.offe hw2 (Or.inr (by have:=Hbr.o;have:=Hbd.o;omega)));clear hw2 hn9;clear Vh;have dc:=Oc.o.cell;replace Hsz:Hid (B0<=w8.heap.size):=hZ (by have h1:=Oc.o.lt;have h2:=Hbc.o;omega)
       go_wp2_with (at_builtin;refine qJu rfl _ _ 22 rfl B0 3 i0 _ 1 8 Tryz.underlying22 Hi.o Hz0.o Hz1.o Hz2.o rfl (by decide) (by intro u hu x;simp[Value.cells]at hu;subst hu;intro e;cases e) _ _ _ rfl (Wp.o.blw aR) ⟨w8.heap.size,0,none⟩ 1 1 [iv .i64 j] rfl rfl (qHX _ _ _) (by simp[Value.oneCell',iv]) (by intro u hu x;simp[iv]at hu;subst hu;intro e;cases e) (by decide) (by unfold maxLen;omega) (by omega) (by simp;have:=Hsz.o;omega) ?_)
       intro v5 w5' hown5 hon;clear hw e0 e1 e2 e3 dc;clear d0h d1h;clear Oc Op Fh;obtain⟨w9,hw⟩:=eX (w8.alloc (.cells #[iv .i64 j] 3));have hB:=aB hw;replace hon:qAc (fun b=>(Value.slice pa ps.length pc).ownBlock=some b) w9 w5':=by rw[<-hw];exact hon
       clear hw;replace Hsz:=hZ (Nat.le_trans Hsz.o (Nat.le_trans hB.size hon.size));replace K:=K.b hB;replace Tr:=Tr.b hB;replace Fd:=Fd.b hB;replace Wp:=Wp.b hB;replace HO:=HO.b hB;clear hB;have hN:∀b,(Value.slice pa ps.length pc).ownBlock=some b->qAi w9 b:=Wp.o.2;obtain⟨w10,rfl⟩:=eY w5';have Hown:Hid (∀b,(Value.slice pa ps.length pc).ownBlock=some b->B0<=b):=hZ (fun b h=>(Wp.o.lt b h).1);replace K:=hZ (K.o.only hon hN (by intro (e:_=some _);have:=Hown.o _ e;have:=HB1.o;have:=HB0.o;omega) (fun i hi=>by intro (e:_=some _);have h1:=Hown.o _ e;have h2:=HB1.o;have h3:=HLT0.o _ (HL.o.2 _ (.inr ⟨i,hi,rfl⟩));omega));replace Tr:=hZ (Tr.o.only hon (by intro (e:_=some _);have:=Hown.o _ e;have:=HB1.o;omega));replace Fd:=hZ (Fd.o.only hon hN (by intro (e:_=some _);have:=Hown.o _ e;have:=HB1.o;omega));replace HO:=hZ (qOC HO.o hon (by intro b e;have:=Hown.o b e;have:=HB1.o;omega))
       go_wp2_with fail
       go_roundw
       case rel=>exact⟨j+1,l1,qDS M1 ps.length j d,ps++[j],h,by omega,by go_num,hZ (by rw[<-Hh.o];exact HE1.o.step HP1.o hpM (by rw[Hh.o];exact HC1.o)),K,HL,Tr,Fd,hZ (by rw[List.length_append,List.map_append];exact hown5),Hsz,HO⟩
       case measure=>simp[intOf];omega
  ·skip
   go_wp2_with fail
   obtain⟨w4,hwd⟩:=eX w3.drew;have hB:=dB hwd;replace K:=K.b hB;replace Tr:=Tr.b hB;replace Fd:=Fd.b hB;replace Wp:=Wp.b hB;replace HO:=HO.b hB;clear hB;have HBr:Hid (qAc (fun b=>False) w4 w4):=hZ (qAc.refl _ _);refine qAU [3] (fun w'=>qAc (fun b=>False) w4 w') (by kernel_rfl) (by rw[hwd];exact qAc.refl _ _) (fun hHeld=> ?_);rw[hwd]at hHeld ⊢;clear hwd;obtain⟨s_d,a_d,n_d,c_d,t_d,h_d⟩:=Fd.o;have d0d:=t_d.cell0;have d1d:=t_d.cell1;have Vd:=hZ h_d;clear t_d h_d;refine pU 0 68 ?_;refine tV 1 69 (cF d0d Fd.o.lt) (cF d1d Fd.o.lt) ?_;clear d0d d1d;refine pU 2 2 ?_;have e0:=Tr.o.cell0;have e1:=Tr.o.cell1;have e2:=Tr.o.frozen 0;have e3:=Tr.o.frozen 1;have hn9:qAi w4 (br):=Tr.o.noInt (fun _ h=>by cases h) (fun _ h=>by cases h);obtain⟨w5,hw⟩:=eX ((w4.setCell ⟨br,0,none⟩ (.bool s_d)).setCell ⟨br,1,none⟩ (.slice a_d n_d c_d));have hw2:st2 w4 (br) (0) (1) s_d a_d n_d c_d=w5:=hw;replace Tr:=hZ (Two.put1 (s:=s_d) (a:=a_d) (n:=n_d) (c:=c_d) Tr.o);rw[hw2]at Tr;replace K:=hZ (qCk.off (g:=br) (o1:=0) (o2:=1) (s:=s_d) (a:=a_d) (n':=n_d) (c:=c_d) K.o hn9 (fun b hb=>by have h1:=HLT0.o b (HL.o.2 b hb);have h2:=Hbr.o;have h3:=Hbd.o;omega));rw[hw2]at K;replace Fd:=hZ (Fd.o.offe hw2 hn9 (by have:=Hbd.o;have:=HB1.o;first|omega|(have:=Hbc.o;omega)));replace Wp:=hZ (qCY.off (g:=br) (o1:=0) (o2:=1) (s':=s_d) (a':=a_d) (n':=n_d) (c':=c_d) Wp.o (fun k hk=>by have h1:=(Wp.o.lt k hk).1;have h2:=HB1.o;omega));rw[hw2]at Wp;replace Vd:=hZ (Vd.o.offe hw2 hn9);replace HO:=hZ (HO.o.offe hw2 (Or.inr Hbr.o));clear hw2 hn9;refine lU 3 fun K hK=> ?_;go_simp
   try rw[hw]
   refine hK.out _ _ ?_;clear hK K
   try simp only[Act.put,sX1,sX2,sX3]
   clear hw e0 e1 e2 e3;refine dU ?_;clear hHeld;have g0:=Tr.o.cell0;have g1:=Tr.o.cell1
   go_wp2_with fail
   exact bodyPost_ret (v:=.tuple #[.slice pa ps.length pc,.agg #[.bool s_d,.slice a_d n_d c_d]]) (by simp[results,Tryz.results146,go_sem,g0,g1]) rfl ⟨_,_,_,_,_,d,l,M,ps,_,rfl,Vd.o,Wp.o.ints,K.o,HL.o.1,HE.o,(show qBi M0 M ps d n from(show j=n by omega)▸HE.o).rest K.o.rowsN,fun p hp=>Nat.lt_of_lt_of_le (HE.o.plt p hp) hj,HO.o⟩
theorem qNF{s:List Int}{M:List (List Int)}{K j:Nat}(h:∀i (hi:i<M.length),(vec s i*vec M[i] j).natAbs<=K):∀i,i<=M.length->(qGv s M i j).natAbs<=i*K
 |0,_=>by simp[qF7]
 |i+1,hi=>by
  rw[qF8 s M i j (by omega),Nat.succ_mul];have h1:=qNF h i (by omega);have h2:=h i (by omega);omega
theorem qPA{k:Nat}{s:List Int}(h:∀x∈s,Sz k x)(i:Nat):Sz k (vec s i):=by
 rcases Nat.lt_or_ge i s.length with h1|h1
 ·rw[qAp h1];exact h _ (List.getElem_mem _)
 ·rw[qAs h1];exact Sz.zero _
theorem qQd(a i:Nat)(hi:i<=64):i*2^a<2^(a+7):=by
 have h1:0<2^a:=Nat.pow_pos (by omega);rw[Nat.pow_add];have h2:i*2^a<=64*2^a:=Nat.mul_le_mul_right _ hi;generalize 2^a=P at *;omega
theorem qO8{k l:Nat}{s:List Int}{M:List (List Int)}{j:Nat}(hs:∀x∈s,Sz k x)(hM:∀r∈M,∀x∈r,Sz l x)(i:Nat)(hi:i<=M.length)(hl:M.length<=64):Sz (k+l+7) (qGv s M i j):=by
 have h1:∀i (hi:i<M.length),(vec s i*vec M[i] j).natAbs<=2^(k+l):=fun i hi=>by
  have:=(qPA hs i).mul (qPA (hM _ (List.getElem_mem hi)) j);unfold Sz at this;exact Nat.le_of_lt this
 have h2:=qNF h1 i hi;unfold Sz;exact Nat.lt_of_le_of_lt h2 (qQd _ i (by omega))
theorem qJ2{s:List Int}{M:List (List Int)}{j:Nat}(hs:∀x∈s,Sz 4001 x)(hM:∀r∈M,∀x∈r,Sz 4000 x)(i:Nat)(hi:i<=M.length)(hl:M.length<=64):Sz 8010 (qGv s M i j):=(qO8 hs hM i hi hl).mono (by omega)
theorem qP1{A B:List Int}{j:Nat}{z:Int}(h:A.length=B.length)(hj:j<B.length)(hz:B[j]=z):(A.take j++B.drop j).set j z=A.take j++B.drop j:=by
 refine List.ext_getElem (by simp) (fun k h1 h2=> ?_);rw[List.getElem_set]
 split
 ·next e=>subst e;rw[qOs h hj,hz]
 ·rfl
theorem qLW(vh vd:Value)(hs:List Int)(w0:World)(B cB n fr:Nat)(l:List Ln)(M:List (List Int))(d:Int)(hh:WOf w0 vh hs)(hhs:hs.length<=l.length)(h:qCk w0 B l n M)(hl0:0<l.length)(hl:l.length<=64)(hcB:l.length<=cB)(hcB2:cB<=9223372036854775807)(hd:qAr w0 vd d)(hd0:d≠0)(hfr:fr<=n)(hn:n<=1000)(sh:∀x∈hs,Sz 4001 x)(sM:∀r∈M,∀x∈r,Sz 4000 x)(sd:Sz 4000 d):
 Calls Tryz.prog 148 #[vh,.slice (some ⟨B,0,none⟩) l.length cB,vd,.int .i64 fr] w0 fun e w'=>∃g,e=.returned (.slice (some ⟨g,0,none⟩) (n-fr:Nat) (n-fr:Nat))/\qAC w' g (qJ1 hs M hs.length d fr (n-fr))/\w0.heap.size<=g/\Below w0.heap.size w0 w':=by
 have HH:=hZ hh;obtain⟨ah,ch,rfl,q1,q2⟩:=qAb.form hh;have K:=hZ h;obtain⟨s_d,a_d,n_d,c_d,rfl⟩:=hd.form4;have Vd:=hZ hd;have HB:=hZ (Below.refl w0.heap.size w0);have Hlen:=hZ h.len;have SH:=hZ sh;have SM:=hZ sM;have Sd:=hZ sd;have hT:=qFq (s:=hs) (M:=M) (k:=hs.length) (d:=d) (c:=fr) (n:=n-fr);have HT:=hZ hT;obtain⟨x0,x1⟩:=h.get 0 hl0;simp only[Nat.zero_mul]at x0 x1;generalize l[0].1=g0 at *;generalize l[0].2.1=gc0 at *;have hl1:(0:Int)<(l.length:Int):=by omega
 clear h hh hd sh sM sd hT x1;have X0:=hZ x0;clear x0;obtain⟨w1,hw⟩:=eX ((w0.alloc (.cells #[.bool s_d,.slice a_d n_d c_d] 73)));have hB:=aB hw;obtain⟨bd,hb_bd⟩:=eX w0.heap.size;have h9:=Bx.new (w:=w0) Vd.o;rw[hw,hb_bd]at h9;have Fd':=hZ h9;have hge_bd:w0.heap.size<=bd:=by omega
 clear h9;replace Vd:=Vd.b hB;replace HB:=bT HB hB;have Fd:=Fd';clear Fd';clear hB;have Hbd:Hid (w0.heap.size<=bd):=hZ hge_bd;clear hge_bd;have x0:=(HB.o.cell (p:=⟨B,0,none⟩) K.o.lt).trans X0.o
 go_enter Tryz.func148,Tryz.ntmps148
 go_wp2_with (at_make;refine qBp rfl rfl (n-fr) rfl rfl (by omega) (by omega) (by omega) ?_)
 intro w2 h_9 hB hlt9;obtain⟨g,hb⟩:=eX w1.heap.size;rw[hb]at h_9 ⊢;have Rr':=hZ h_9;have hge_g:Hid (w1.heap.size<=g):=hZ (Nat.le_of_eq hb);have hlt_g:Hid (g<w2.heap.size):=hZ (by rw[<-hb];exact hlt9);have HGG:w0.heap.size<=g/\bd<g:=⟨Nat.le_trans HB.o.size hge_g.o,by rw[<-hb];exact Fd.o.lt⟩;clear h_9 hb hlt9;replace Vd:=Vd.b hB;replace Fd:=Fd.b hB;replace HB:=bT HB hB;clear hB;have Rr:=Rr';clear Rr'
 skip
 clear Vd
 go_wp2_with fail
 have Hg:Hid (w0.heap.size<=g/\bd<g):=hZ HGG;clear hge_g hlt_g HGG X0
 try clear x0
 obtain⟨N,hN⟩:=eX (n-fr);have Hnn:=hZ hN;have hN1:N<=1000:=by omega
 rw[hN]at Rr HT ⊢;clear hN
 go_loopw [24] (fun i wr=>∃j:Nat,j<=N/\i=.int .i64 j/\Hid (qAC wr g ((qJ1 hs M hs.length d fr N).take j++(List.replicate N 0).drop j))/\Hid (Bx wr bd d)/\Hid (Below w0.heap.size w0 wr)) (fun i _=>N-(intOf i).toNat)
 case atStart=>exact⟨0,by omega,rfl,hZ (by simpa using Rr.o),Fd,HB⟩
 case round=>
  clear Rr Fd HB;obtain⟨j,hj,rfl,Rr,Fd,HB⟩:=hrel;obtain⟨w2,rfl⟩:=eY wr;by_cases hlt:j<N
  ·skip
   have i1:(0:Int)<=(j:Int):=by omega
   have i2:(j:Int)<(N:Int):=by omega
   have HTl:Hid ((qJ1 hs M hs.length d fr N).length=(List.replicate N (0:Int)).length):=hZ (by have:=HT.o;simpa using this);obtain⟨base,hbase⟩:=eX ((qJ1 hs M hs.length d fr N).take j++(List.replicate N 0).drop j);rw[hbase]at Rr;have Hbl:Hid (j<base.length):=hZ (by rw[<-hbase,qC8 HTl.o (by simp;omega)];simpa using hlt);have HBS:Hid (base.set j ((qJ1 hs M hs.length d fr N)[j]'(by have:=HT.o;omega))=(qJ1 hs M hs.length d fr N).take (j+1)++(List.replicate N 0).drop (j+1)):=hZ (by rw[<-hbase];exact qCW HTl.o (by simpa using hlt));have HB0:Hid (base.set j 0=base):=hZ (by rw[<-hbase];exact qP1 HTl.o (by simpa using hlt) (by simp));have HE0:Hid (qGv hs M 0 (fr+j)=0):=hZ (qF7 _ _ _);clear hbase
   go_wp2_with fail
   go_loopw [29] (fun i wr=>∃q:Nat,q<=hs.length/\i=.int .i64 q/\Hid (qAC wr g (base.set j (qGv hs M q (fr+j))))/\Hid (Bx wr bd d)/\Hid (Below w0.heap.size w0 wr)) (fun i _=>hs.length-(intOf i).toNat)
   case atStart=>exact⟨0,by omega,rfl,hZ (by rw[HE0.o,HB0.o];exact Rr.o),Fd,HB⟩
   case round=>
    clear Rr Fd HB;obtain⟨q,hq,rfl,Rr,Fd,HB⟩:=hrel;obtain⟨w2,rfl⟩:=eY wr;by_cases hql:q<hs.length
    ·skip
     have i3:(0:Int)<=(q:Int):=by omega
     have i4:(q:Int)<(hs.length:Int):=by omega
     have i5:(q:Int)<(l.length:Int):=by omega
     have hqM:q<M.length:=by have:=Hlen.o;omega
     have hql2:q<l.length:=by omega
     obtain⟨b9,c9,s_h,a_h,n_h,c_h,hv9,hb9,d0h,d1h,h_h⟩:=(HH.o.blw HB.o).at_ q hql;injection hv9 with f1 f2 f3;subst f1;clear f2 f3;obtain⟨hv,hhv⟩:=eX (hs[q]);rw[hhv]at h_h;have Vh:=hZ h_h;have Sh:Hid (Sz 4001 hv):=hZ (hhv▸SH.o _ (List.getElem_mem _));have Hhv:=hZ hhv;clear h_h hhv hb9;have hgl:=Rr.o.lt;obtain⟨w3,hw⟩:=eX ((w2.alloc (.cells #[.bool s_h,.slice a_h n_h c_h] 73)));have hB:=aB hw;obtain⟨bh,hb_bh⟩:=eX w2.heap.size;have h9:=Bx.new (w:=w2) Vh.o;rw[hw,hb_bh]at h9;have Fh':=hZ h9;have hge_bh:w2.heap.size<=bh:=by omega
     clear h9;replace Rr:=Rr.b hB;replace Fd:=Fd.b hB;replace Vh:=Vh.b hB;replace HB:=bT HB hB;have Fh:=Fh';clear Fh';clear hB;have hgb:g<bh:=by omega
     clear hgl;have hgl:=Rr.o.lt;obtain⟨y0,y1⟩:=(K.o.blw HB.o).get q hql2;obtain⟨hrow,hrl⟩:=(K.o.blw HB.o).row q hql2;have hjn:fr+j<M[q].length:=by have:=Hnn.o;omega
     obtain⟨s_e,a_e,n_e,c_e,d0e,d1e,h_e⟩:=hrow.get (fr+j) hjn;have hltg:=hrow.lt;obtain⟨ev,hev⟩:=eX (M[q][fr+j]);rw[hev]at h_e;have Ve:=hZ h_e;have Se:Hid (Sz 4000 ev):=hZ (hev▸SM.o _ (List.getElem_mem _) _ (List.getElem_mem _));have Hev:=hZ hev;obtain⟨ge,hge⟩:=eX (l[q].1);obtain⟨ce,hce⟩:=eX (l[q].2.1);rw[hge,hce]at y0;rw[hge]at d0e d1e;clear y1 h_e hev hge hce hrow hrl hltg;have i6:(0:Int)<=(fr:Int)+(j:Int):=by omega
     have i7:(fr:Int)+(j:Int)<(n:Int):=by have:=Hnn.o;omega
     have Hext:Hid (qGv hs M (q+1) (fr+j)=qGv hs M q (fr+j)+hv*ev):=hZ (by rw[qF8 _ _ _ _ hqM,qAp hql,qAp hjn,Hhv.o,Hev.o]);have SE:Hid (Sz 8010 (qGv hs M q (fr+j))):=hZ (qJ2 SH.o SM.o q (by omega) (by have:=Hlen.o;omega));have hw1:=hw;clear hw;obtain⟨w4,hw⟩:=eX ((w3.alloc (.cells #[.bool s_e,.slice a_e n_e c_e] 73)));have hB:=aB hw;obtain⟨be,hb_be⟩:=eX w3.heap.size;have h9:=Bx.new (w:=w3) Ve.o;rw[hw,hb_be]at h9;have Fe':=hZ h9;have hge_be:w3.heap.size<=be:=by omega
     clear h9;replace Rr:=Rr.b hB;replace Fd:=Fd.b hB;replace Vh:=Vh.b hB;replace Fh:=Fh.b hB;replace Ve:=Ve.b hB;replace HB:=bT HB hB;have Fe:=Fe';clear Fe';clear hB;have Hne:Hid (g<bh/\g<be):=hZ ⟨hgb,by omega⟩;clear hgb hgl
     skip
     skip
     obtain⟨s_p,a_p,n_p,c_p,t_p,h_p⟩:=Fh.o;have d0p:=t_p.cell0;have d1p:=t_p.cell1;have Vp:=hZ h_p;clear t_p h_p
     go_wp2_with fail
     clear hw hw1 hb_bh hb_be;clear d0h d1h d0e d1e y0;obtain⟨E,hE⟩:=eX (qGv hs M q (fr+j));rw[hE]at Rr Hext SE;clear hE;by_cases hh0:hv=0
     ·skip
      refine(qAE (w:=w4) Vp.o Sh.o (by omega)).mono ?_;rintro e w5 ⟨he,hB⟩;rw[show qAV hv 0=0 by rw[hh0];exact qA7 0]at he;subst he;replace Rr:=Rr.b hB;replace Fd:=Fd.b hB;replace Vh:=Vh.b hB;replace Fh:=Fh.b hB;replace Ve:=Ve.b hB;replace Fe:=Fe.b hB;replace Vp:=Vp.b hB;replace HB:=bT HB hB;clear hB
      go_wp2_with fail
      go_roundw
      case rel=>exact⟨q+1,by omega,by go_num,hZ (by rw[Hext.o,show E+hv*ev=E by rw[hh0];simp];exact Rr.o),Fd,HB⟩
      case measure=>simp[intOf];omega
     ·skip
      refine(qAE (w:=w4) Vp.o Sh.o (by omega)).mono ?_;rintro e w5 ⟨he,hB⟩;obtain⟨sgp,hs9,q0p,q1p⟩:=qBn (x:=hv) hh0;rw[hs9]at he;subst he;clear hs9;replace Rr:=Rr.b hB;replace Fd:=Fd.b hB;replace Vh:=Vh.b hB;replace Fh:=Fh.b hB;replace Ve:=Ve.b hB;replace Fe:=Fe.b hB;replace Vp:=Vp.b hB;replace HB:=bT HB hB;clear hB;obtain⟨s_o,a_o,n_o,c_o,t_o,h_o⟩:=Fe.o;have d0o:=t_o.cell0;have d1o:=t_o.cell1;have Vo:=hZ h_o;clear t_o h_o
      go_wp2_with fail
      clear d0p d1p;clear q0p q1p;by_cases he0:ev=0
      ·skip
       refine(qAE (w:=w5) Vo.o Se.o (by omega)).mono ?_;rintro e w6 ⟨he,hB⟩;rw[show qAV ev 0=0 by rw[he0];exact qA7 0]at he;subst he;replace Rr:=Rr.b hB;replace Fd:=Fd.b hB;replace Vh:=Vh.b hB;replace Fh:=Fh.b hB;replace Ve:=Ve.b hB;replace Fe:=Fe.b hB;replace Vp:=Vp.b hB;replace Vo:=Vo.b hB;replace HB:=bT HB hB;clear hB
       go_wp2_with fail
       go_roundw
       case rel=>exact⟨q+1,by omega,by go_num,hZ (by rw[Hext.o,show E+hv*ev=E by rw[he0];simp];exact Rr.o),Fd,HB⟩
       case measure=>simp[intOf];omega
      ·skip
       refine(qAE (w:=w5) Vo.o Se.o (by omega)).mono ?_;rintro e w6 ⟨he,hB⟩;obtain⟨sgo,hs9,q0o,q1o⟩:=qBn (x:=ev) he0;rw[hs9]at he;subst he;clear hs9;replace Rr:=Rr.b hB;replace Fd:=Fd.b hB;replace Vh:=Vh.b hB;replace Fh:=Fh.b hB;replace Ve:=Ve.b hB;replace Fe:=Fe.b hB;replace Vp:=Vp.b hB;replace Vo:=Vo.b hB;replace HB:=bT HB hB;clear hB
       go_wp2_with fail
       clear d0o d1o;clear q0o q1o;clear Vh Ve Vp Vo;have Hjs:Hid (j<(base.set j E).length):=hZ (by rw[List.length_set];exact Hbl.o);obtain⟨w7,hwd⟩:=eX w6.drew;have hB:=dB hwd;replace Rr:=Rr.b hB;replace Fd:=Fd.b hB;replace Fh:=Fh.b hB;replace Fe:=Fe.b hB;replace HB:=bT HB hB;clear hB;have HBr:Hid (qAc (fun b=>False) w7 w7):=hZ (qAc.refl _ _);refine qAU [11] (fun w'=>qAc (fun b=>False) w7 w') (by kernel_rfl) (by rw[hwd];exact qAc.refl _ _) (fun hHeld=> ?_);rw[hwd]at hHeld ⊢;clear hwd;obtain⟨s_r,a_r,n_r,c_r,d0r,d1r,h_r⟩:=Rr.o.get j Hjs.o;rw[List.getElem_set_self]at h_r;have Vr:=hZ h_r;clear h_r;obtain⟨s_h,a_h,n_h,c_h,t_h,h_h⟩:=Fh.o;have d0h:=t_h.cell0;have d1h:=t_h.cell1;have Vh:=hZ h_h;clear t_h h_h;obtain⟨s_e,a_e,n_e,c_e,t_e,h_e⟩:=Fe.o;have d0e:=t_e.cell0;have d1e:=t_e.cell1;have Ve:=hZ h_e;clear t_e h_e;refine pU 0 52 ?_;refine pU 1 53 ?_;refine pU 2 54 ?_;refine pU 3 55 ?_;refine pU 4 56 ?_;refine tV 5 57 (cF d0r Rr.o.lt) (cF d1r Rr.o.lt) ?_;refine tV 6 58 (cF d0h Fh.o.lt) (cF d1h Fh.o.lt) ?_;refine tV 7 59 (cF d0e Fe.o.lt) (cF d1e Fe.o.lt) ?_;clear d0h d1h d0e d1e;clear d0r d1r;refine eU 8 fun K hK=> ?_;go_simp;refine(qBH (w:=w7) Vh.o Ve.o Sh.o Se.o (by omega)).mono ?_;rintro e w8 ⟨s_t,a_t,n_t,c_t,rfl,h_t,hB⟩;have Vt:=hZ h_t;replace HBr:=oT HBr hB;replace Rr:=Rr.b hB;replace Fd:=Fd.b hB;replace Fh:=Fh.b hB;replace Fe:=Fe.b hB;replace Vr:=Vr.b hB;replace Vh:=Vh.b hB;replace Ve:=Ve.b hB;replace HB:=bT HB hB;clear hB;clear h_t;refine hK.out _ _ HBr.o (fun hHeld=> ?_);clear hK K
       try simp only[Act.put,sX1,sX2,sX3]
       refine eU 9 fun K hK=> ?_;go_simp;refine(qMS (w:=w8) (k:=8010) Vr.o Vt.o SE.o ((Sh.o.mul Se.o).mono (by omega)) (by omega)).mono ?_;rintro e w9 ⟨s_u,a_u,n_u,c_u,rfl,h_u,hB⟩;have Vu:=hZ h_u;replace HBr:=oT HBr hB;replace Rr:=Rr.b hB;replace Fd:=Fd.b hB;replace Fh:=Fh.b hB;replace Fe:=Fe.b hB;replace Vr:=Vr.b hB;replace Vh:=Vh.b hB;replace Ve:=Ve.b hB;replace Vt:=Vt.b hB;replace HB:=bT HB hB;clear hB;clear h_u;refine hK.out _ _ HBr.o (fun hHeld=> ?_);clear hK K
       try simp only[Act.put,sX1,sX2,sX3]
       refine pU 10 62 ?_;obtain⟨s_9,a_9,n_9,c_9,e0,e1,-⟩:=Rr.o.get (j) Hjs.o;have e2:=Rr.o.frozen (j*2);have e3:=Rr.o.frozen (j*2+1);have hn9:qAi w9 (g):=Rr.o.noInt;obtain⟨w10,hw⟩:=eX ((w9.setCell ⟨g,j*2,none⟩ (.bool s_u)).setCell ⟨g,j*2+1,none⟩ (.slice a_u n_u c_u));have hw2:st2 w9 (g) (j*2) (j*2+1) s_u a_u n_u c_u=w10:=hw;replace Rr:=hZ (qAC.put' Rr.o (j) Hjs.o Vu.o);rw[hw2]at Rr;replace Fd:=hZ (Fd.o.offe hw2 hn9 (by have:=Hg.o;have:=Hne.o;omega));replace Fh:=hZ (Fh.o.offe hw2 hn9 (by have:=Hg.o;have:=Hne.o;omega));replace Fe:=hZ (Fe.o.offe hw2 hn9 (by have:=Hg.o;have:=Hne.o;omega));replace Vr:=hZ (Vr.o.offe hw2 hn9);replace Vh:=hZ (Vh.o.offe hw2 hn9);replace Ve:=hZ (Ve.o.offe hw2 hn9);replace Vt:=hZ (Vt.o.offe hw2 hn9);replace Vu:=hZ (Vu.o.offe hw2 hn9);replace HB:=hZ (bO hw2 HB.o Hg.o.1);clear hw2 hn9;refine lU 11 fun K hK=> ?_;go_simp
       try rw[hw]
       refine hK.out _ _ ?_;clear hK K
       try simp only[Act.put,sX1,sX2,sX3]
       clear hw e0 e1 e2 e3;refine dU ?_;clear hHeld;replace Rr:Hid (qAC w10 g (base.set j (E+hv*ev))):=hZ (by have h1:=Rr.o;rw[List.set_set]at h1;exact h1)
       go_wp2_with fail
       go_roundw
       case rel=>exact⟨q+1,by omega,by go_num,hZ (by rw[Hext.o];exact Rr.o),Fd,HB⟩
       case measure=>simp[intOf];omega
    ·skip
     obtain rfl:q=hs.length:=by omega
     have SE:Hid (Sz 8010 (qGv hs M hs.length (fr+j))):=hZ (qJ2 SH.o SM.o _ (by have:=Hlen.o;omega) (by have:=Hlen.o;omega));have HTj:Hid ((qJ1 hs M hs.length d fr N)[j]'(by have:=HT.o;omega)=qGv hs M hs.length (fr+j)/d):=hZ (by simp[qJ1]);generalize qGv hs M hs.length (fr+j)=E at *;have Hjs:Hid (j<(base.set j E).length):=hZ (by rw[List.length_set];exact Hbl.o);obtain⟨s_r,a_r,n_r,c_r,d0r,d1r,h_r⟩:=Rr.o.get j Hjs.o;rw[List.getElem_set_self]at h_r;have Vr:=hZ h_r;clear h_r
     go_wp2_with fail
     clear d0r d1r;by_cases hE0:E=0
     ·skip
      refine(qAE (w:=w2) Vr.o SE.o (by omega)).mono ?_;rintro e w3 ⟨he,hB⟩;rw[show qAV E 0=0 by rw[hE0];exact qA7 0]at he;subst he;replace Rr:=Rr.b hB;replace Fd:=Fd.b hB;replace Vr:=Vr.b hB;replace HB:=bT HB hB;clear hB
      go_wp2_with fail
      go_roundw
      case rel=>exact⟨j+1,by omega,by go_num,hZ (by rw[<-HBS.o,HTj.o,hE0,Int.zero_ediv];have h1:=Rr.o;rw[hE0]at h1;exact h1),Fd,HB⟩
      case measure=>simp[intOf];omega
     ·skip
      refine(qAE (w:=w2) Vr.o SE.o (by omega)).mono ?_;rintro e w3 ⟨he,hB⟩;obtain⟨sgr,hs9,q0r,q1r⟩:=qBn (x:=E) hE0;rw[hs9]at he;subst he;clear hs9;replace Rr:=Rr.b hB;replace Fd:=Fd.b hB;replace Vr:=Vr.b hB;replace HB:=bT HB hB;clear hB
      go_wp2_with fail
      clear q0r q1r;clear Vr;obtain⟨w4,hwd⟩:=eX w3.drew;have hB:=dB hwd;replace Rr:=Rr.b hB;replace Fd:=Fd.b hB;replace HB:=bT HB hB;clear hB;have HBr:Hid (qAc (fun b=>False) w4 w4):=hZ (qAc.refl _ _);refine qAU [9] (fun w'=>qAc (fun b=>False) w4 w') (by kernel_rfl) (by rw[hwd];exact qAc.refl _ _) (fun hHeld=> ?_);rw[hwd]at hHeld ⊢;clear hwd;obtain⟨s_r,a_r,n_r,c_r,d0r,d1r,h_r⟩:=Rr.o.get j Hjs.o;rw[List.getElem_set_self]at h_r;have Vr:=hZ h_r;clear h_r;obtain⟨s_d,a_d,n_d,c_d,t_d,h_d⟩:=Fd.o;have d0d:=t_d.cell0;have d1d:=t_d.cell1;have Vd:=hZ h_d;clear t_d h_d;refine pU 0 70 ?_;refine pU 1 71 ?_;refine pU 2 72 ?_;refine pU 3 73 ?_;refine pU 4 74 ?_;refine tV 5 75 (cF d0r Rr.o.lt) (cF d1r Rr.o.lt) ?_;refine tV 6 76 (cF d0d Fd.o.lt) (cF d1d Fd.o.lt) ?_;clear d0d d1d;clear d0r d1r;refine eU 7 fun K hK=> ?_;go_simp;refine(qE3 (w:=w4) Vr.o Vd.o SE.o Sd.o hd0 (by omega) (by omega)).mono ?_;rintro e w5 ⟨s_u,a_u,n_u,c_u,rfl,h_u,hB⟩;have Vu:=hZ h_u;replace HBr:=oT HBr hB;replace Rr:=Rr.b hB;replace Fd:=Fd.b hB;replace Vr:=Vr.b hB;replace Vd:=Vd.b hB;replace HB:=bT HB hB;clear hB;clear h_u;refine hK.out _ _ HBr.o (fun hHeld=> ?_);clear hK K
      try simp only[Act.put,sX1,sX2,sX3]
      refine pU 8 78 ?_;obtain⟨s_9,a_9,n_9,c_9,e0,e1,-⟩:=Rr.o.get (j) Hjs.o;have e2:=Rr.o.frozen (j*2);have e3:=Rr.o.frozen (j*2+1);have hn9:qAi w5 (g):=Rr.o.noInt;obtain⟨w6,hw⟩:=eX ((w5.setCell ⟨g,j*2,none⟩ (.bool s_u)).setCell ⟨g,j*2+1,none⟩ (.slice a_u n_u c_u));have hw2:st2 w5 (g) (j*2) (j*2+1) s_u a_u n_u c_u=w6:=hw;replace Rr:=hZ (qAC.put' Rr.o (j) Hjs.o Vu.o);rw[hw2]at Rr;replace Fd:=hZ (Fd.o.offe hw2 hn9 (by have:=Hg.o;omega));replace Vr:=hZ (Vr.o.offe hw2 hn9);replace Vd:=hZ (Vd.o.offe hw2 hn9);replace Vu:=hZ (Vu.o.offe hw2 hn9);replace HB:=hZ (bO hw2 HB.o Hg.o.1);clear hw2 hn9;refine lU 9 fun K hK=> ?_;go_simp
      try rw[hw]
      refine hK.out _ _ ?_;clear hK K
      try simp only[Act.put,sX1,sX2,sX3]
      clear hw e0 e1 e2 e3;refine dU ?_;clear hHeld
      go_wp2_with fail
      go_roundw
      case rel=>exact⟨j+1,by omega,by go_num,hZ (by rw[<-HBS.o,HTj.o];have h1:=Rr.o;rw[List.set_set]at h1;exact h1),Fd,HB⟩
      case measure=>simp[intOf];omega
  ·skip
   obtain rfl:j=N:=by omega
   replace Rr:Hid (qAC w2 g (qJ1 hs M hs.length d fr j)):=hZ (by have h1:=Rr.o;have h2:=HT.o;rw[List.take_of_length_le (by omega),List.drop_eq_nil_of_le (by simp),List.append_nil]at h1;exact h1)
   go_wp2_with fail
   go_ret;rw[Hnn.o];exact⟨g,rfl,Rr.o,Hg.o.1,HB.o⟩
def qFQ(sq M:List (List Int))(k:Nat)(d:Int)(f fr n:Nat):List (List Int):=(sq.drop f).map (fun s=>qJ1 s M k d fr (n-fr))
theorem qLg.mem{m:Int}{n:Nat}{Sq R R':List Vec}(h:qLg m n Sq R)(hm:∀r,r∈R ↔ r∈R'):qLg m n Sq R':=
 ⟨h.tri,fun r hr=>(h.into r hr).trans (fun s hs=>qAa.mem (by
  rcases List.mem_append.1 hs with h1|h1
  ·exact List.mem_append.2 (.inl h1)
  ·exact List.mem_append.2 (.inr ((hm s).1 h1)))),fun r hr=>h.onto r ((hm r).2 hr)⟩
theorem qQH(u:Vec)(j:Nat)(M:List (List Int))(hj:∀r∈M,r.length<=j):qBg u (M.map vec) 0 j=0:=
 qBs _ _ _ _ (fun t ht=>by
  rw[List.getElem_map,qAs (hj _ (List.getElem_mem _)),Int.mul_zero])
theorem qBi.norm{M0 M sq sq':List (List Int)}{ps:List Nat}{d m:Int}{col n f fr:Nat}(h:qBi M0 M ps d col)(hz:∀i,∀h:i<M.length,ps.length<=i->∀j,vec M[i] j=0)(hn:∀r∈M,r.length=n)(hm:m=if d<0 then -d else d)
 (hq:qLg m ps.length (sq.map vec) (M0.map (fun r=>res ps (vec r))))(hr:qMd m ps.length 0 (sq.map vec) (sq'.map vec))(hf:f<ps.length)(h1:∀i (h:i<ps.length),i<f->ps[i]<fr)(h2:fr<=ps[f])(hfr:fr<=n):
 qAW (M0.map vec) fr ((qFQ sq' M ps.length d f fr n).map vec):=by
 obtain⟨A,a1,a2,a3,-⟩:=h;have hmA:∀r,r∈A.map vec ↔ r∈M0.map vec:=fun r=>by
  simp only[List.mem_map];exact⟨fun⟨x,hx,e⟩=>⟨x,(a2 x).1 hx,e⟩,fun⟨x,hx,e⟩=>⟨x,(a2 x).2 hx,e⟩⟩
 have hmR:∀r,r∈M0.map (fun r=>res ps (vec r)) ↔ r∈(A.map vec).map (res ps):=fun r=>by
  simp only[List.mem_map,List.map_map];exact⟨fun⟨x,hx,e⟩=>⟨x,(a2 x).2 hx,e⟩,fun⟨x,hx,e⟩=>⟨x,(a2 x).1 hx,e⟩⟩
 have h0:∀i (h:i<(M.map vec).length),ps.length<=i->∀j,(M.map vec)[i] j=0:=fun i hi hp j=>by
  rw[List.getElem_map];exact hz i (by simpa using hi) hp j
 have hu:∀k,k<ps.length->qAa ((A.map vec).map (res ps)) (qCa m k):=fun k hk=>by
  have:=qOq (a3.unit (fun i hi=>a3.minor _ (List.getElem_mem _)) (fun i hi t ht hip=>by
   rw[a3.diag i t hi hip ht];by_cases e:i=t
   ·rw[if_pos e,if_pos e.symm]
   ·rw[if_neg e,if_neg (Ne.symm e)]) k hk)
  rwa [<-hm]at this
 have hT:Tri ps.length (sq'.map vec) ((A.map vec).map (res ps)):=(hq.mem hmR).tri_ hr hu;have hV:qRe (sq'.map (fun s=>fun j=>qBg (vec s) ((M.map vec).take ps.length) 0 j/d)) (sq'.map vec) (M.map vec) ps.length d:=
  ⟨by simp,fun i hi hi' j=>by simp⟩
 have:=(a3.norm_some h0 hT hV hf h1 h2).mem hmA;have e:((sq'.map (fun s=>fun j=>qBg (vec s) ((M.map vec).take ps.length) 0 j/d)).drop f).map (sh fr)=(qFQ sq' M ps.length d f fr n).map vec:=by
  unfold qFQ;rw[<-List.map_drop,List.map_map,List.map_map];refine List.map_congr_left (fun s _=>funext (fun j=> ?_))
  show qBg (vec s) ((M.map vec).take ps.length) 0 (fr+j)/d=vec (qJ1 s M ps.length d fr (n-fr)) j
  rcases Nat.lt_or_ge j (n-fr)with hj|hj
  ·rw[qAp (by rw[qFq];exact hj)]
   simp[qJ1,qGv,List.map_take]
  ·rw[qAs (by rw[qFq];exact hj),<-List.map_take,qQH _ _ _ (fun r hr=>by rw[hn r (List.mem_of_mem_take hr)];omega)]
   simp
 rwa [e]at this
theorem qBi.norm0{M0 M:List (List Int)}{ps:List Nat}{d:Int}{col fr:Nat}(h:qBi M0 M ps d col)(hz:∀i,∀h:i<M.length,ps.length<=i->∀j,vec M[i] j=0)(h1:∀p∈ps,p<fr):qAW (M0.map vec) fr []:=by
 obtain⟨A,a1,a2,a3,-⟩:=h;refine(a3.norm_none (fun i hi hp j=> ?_) h1).mem (fun r=> ?_)
 ·rw[List.getElem_map]
  exact hz i (by simpa using hi) hp j
 ·simp only[List.mem_map]
  exact⟨fun⟨x,hx,e⟩=>⟨x,(a2 x).1 hx,e⟩,fun⟨x,hx,e⟩=>⟨x,(a2 x).2 hx,e⟩⟩
theorem qQh{ps:List Nat}{f fr:Nat}(h:∀q (h:q<ps.length),q<f->ps[q]<fr)(hf:f<ps.length)(hp:ps[f]<fr):∀q (h:q<ps.length),q<f+1->ps[q]<fr:=by
 intro q hq hqf;by_cases e:q=f
 ·subst e;exact hp
 ·exact h q hq (by omega)
theorem qGY{w:World}{base n g b:Nat}{v:Value}{xs:List Value}{zs:List Int}(h:qCY w base 77 1 v n xs)(hb:v.ownBlock=some b)(hr:qAC w g zs):g≠b:=by
 rintro rfl;obtain⟨cs,h1,-⟩:=hr;rcases h.1.2 with ⟨hv,_⟩|⟨g',cap,cur,hv,_,hg,_⟩
 ·rw[hv]at hb;cases hb
 ·rw[hv]at hb
  simp only[Value.ownBlock,Option.some.injEq]at hb;subst hb;unfold qAf at h1;rw[h1]at hg;injection hg with hg;injection hg with _ hg2 _;exact absurd hg2 (by decide)
theorem qJk.of_own{w:World}{base N:Nat}{v:Value}{l:List Rw}{M:List (List Int)}(h:qCY w base 77 1 v l.length (l.map (rwC N)))(hr:qAB w l N M):qJk w v M:=by
 refine qAb.of_own (css:=l.map (fun x=>[rwC N x])) (base:=base) (e:=77) (by rw[qBf,List.length_map];exact h.1) (fun cs h=>by obtain⟨x,_,rfl⟩:=List.mem_map.1 h;rfl) (by rw[List.length_map];exact hr.len.symm) (fun j h1 h2=> ?_);have h3:j<l.length:=by rw[<-hr.len];exact h1
 obtain⟨k1,k2⟩:=hr.row j h3;rw[List.getElem_map];refine⟨_,rfl,?_⟩;have:=k1.of_ (c:=l[j].2) (by rw[k2];exact(hr.cap j h3).1) (hr.cap j h3).2;rw[k2]at this;exact this
def qH2(w0:World)(M0:List (List Int))(n fr:Nat)(e:Ending)(w':World):Prop:=
 ∃vr H,e=.returned vr/\qJk w' vr H/\(∀r∈H,r.length=n-fr)/\(∀r∈H,∀x∈r,Sz 8100 x)/\H.length<=M0.length/\qAW (M0.map vec) fr (H.map vec)/\Below w0.heap.size w0 w'
theorem qOH{sq M:List (List Int)}{k:Nat}{d:Int}{f fr n:Nat}(hs:∀r∈sq,∀x∈r,Sz 4001 x)(hM:∀r∈M,∀x∈r,Sz 4000 x)(hk:k<=M.length)(hl:M.length<=64)(hd:d≠0):∀r∈qFQ sq M k d f fr n,∀x∈r,Sz 8100 x:=by
 intro r hr x hx;obtain⟨s,hs2,rfl⟩:=List.mem_map.1 hr;obtain⟨j,_,rfl⟩:=List.mem_map.1 hx;exact((qJ2 (hs s (List.mem_of_mem_drop hs2)) hM k hk hl).div hd).mono (by omega)
theorem qLA(w0:World)(v:Value)(M0:List (List Int))(n fr:Nat)(h:qJk w0 v M0)(h0:0<M0.length)(hn:∀r∈M0,r.length=n)(hn0:0<n)(hn2:n<=1000)(hfr:fr<=n)(hs:Sml M0):
 Calls Tryz.prog 69 #[v,.int .i64 fr] w0 (qH2 w0 M0 n fr):=by
 obtain⟨i0,hi,hz0,hz1,hz2⟩:=info_parts qPE;have Hi:=hZ hi;have Hz0:=hZ hz0;have Hz1:=hZ hz1;have Hz2:=hZ hz2;clear hi hz0 hz1 hz2;obtain⟨av,cv,rfl,q1,q2⟩:=qAb.form h;have hM:=hs.1;have H:=hZ h;have Hn:=hZ hn;have HS:=hZ hs;have HL:=hZ (qNi _ M0 n w0 h (by omega) hn hn0 hn2);have HB:=hZ (Below.refl w0.heap.size w0);clear h hn hs
 go_enter Tryz.func69,Tryz.ntmps69
 go_wp2_with fail
 refine HL.o.mono ?_;rintro e w1 ⟨B,l0,rfl,hLn,hl,hgB,hgl,hB⟩;have HE:=hZ (qHR w1 B M0.length n l0 M0 hLn (by omega) (by omega) (by omega) hn2 HS.o);have HGl:Hid (w0.heap.size<=B/\∀i (h:i<l0.length),w0.heap.size<=l0[i].1):=hZ ⟨hgB,hgl⟩;replace HB:=bT HB hB;clear hB HL hLn hgB hgl;rw[hl]at HE
 go_wp2_with fail
 refine HE.o.mono ?_;rintro e w2 ⟨vp,s_d,a_d,c_d,n_d,d,l,M,ps,col,rfl,h1,h2,h3,hll,h5,h6,h7,ho⟩;obtain⟨ap,cp,hvp,q3,q4⟩:=h2.form;rw[List.length_map]at hvp q3;subst hvp;have HP:=hZ h2;have K:=hZ h3;have HEL:=hZ h5;have HZ:=hZ h6;have HPL:=hZ h7;replace HB:=hZ (qAY HB.o ho (by rintro b (rfl|⟨i,hi,rfl⟩);exact HGl.o.1;exact HGl.o.2 i hi) HB.o.size);have hl64:l.length=M0.length:=by omega
 have Hml:=hZ h3.len;have Sd:=hZ (h5.dsz HS.o);have SM:=hZ (h5.sz HS.o);have hd0:=h5.d0;have hpl:ps.length<=M0.length:=by have:=h5.le;have:=h3.len;omega
 have Vd:Hid (qAr w2 (.agg #[.bool s_d,.slice a_d n_d c_d]) d):=hZ h1;have HMn:=hZ h3.rowsN;clear HE HGl h1 h2 h3 h5 h6 h7 ho hl hll;obtain⟨w3,hw⟩:=eX ((w2.alloc (.cells #[.bool s_d,.slice a_d n_d c_d] 73)));have hB:=aB hw;obtain⟨bd,hb_bd⟩:=eX w2.heap.size;have h9:=Bx.new (w:=w2) Vd.o;rw[hw,hb_bd]at h9;have Fd':=hZ h9;have hge_bd:w2.heap.size<=bd:=by omega
 clear h9;replace Vd:=Vd.b hB;replace K:=K.b hB;replace HB:=bT HB hB;have Fd:=Fd';clear Fd';clear hB;replace HP:=hZ (HP.o.below (show Below w2.heap.size w2 w3 by rw[<-hw];exact aR))
 go_wp2_with fail
 clear hw hb_bd;clear Vd;clear hge_bd
 go_loopw [8] (fun i wr=>∃f:Nat,f<=ps.length/\i=.int .i64 f/\Hid (∀q (h:q<ps.length),q<f->ps[q]<fr)/\w3=wr) (fun i _=>ps.length-(intOf i).toNat)
 case atStart=>exact⟨0,by omega,rfl,hZ (fun q h h2=>by omega),rfl⟩
 case round=>
  obtain⟨f,hf,rfl,HF,rfl⟩:=hrel;by_cases hfl:f<ps.length
  ·skip
   have i1:(0:Int)<=(f:Int):=by omega
   have i2:(f:Int)<(ps.length:Int):=by omega
   obtain⟨b2,cap2,hv,hb2,n2⟩:=HP.o.at_ f (by simpa using hfl);rw[List.length_map]at hv;injection hv with f1 f2 f3;subst f1;clear f2 f3;rw[List.getElem_map]at n2;obtain⟨p,hp⟩:=eX (ps[f]);rw[hp]at n2;have Hp:=hZ hp;clear hp hb2;by_cases hpf:p<fr
   ·skip
    have s1:(p:Int)<(fr:Int):=by omega
    go_wp2_with fail
    go_roundw
    case rel=>exact⟨f+1,by omega,by go_num,hZ (qQh HF.o hfl (by rw[Hp.o];exact hpf)),by trivial⟩
    case measure=>simp[intOf];omega
   ·skip
    have s1:¬(p:Int)<(fr:Int):=by omega
    have s2:((f:Int)==(ps.length:Int))=false:=by rw[beq_eq_false_iff_ne];omega
    have s3:(f==ps.length)=false:=by rw[beq_eq_false_iff_ne];omega
    have Hfr2:Hid (fr<=ps[f]):=hZ (by rw[Hp.o];omega);obtain⟨s_q,a_q,n_q,c_q,t_q,h_q⟩:=Fd.o;have d0q:=t_q.cell0;have d1q:=t_q.cell1;have Vq:=hZ h_q;clear t_q h_q
    go_wp2_with fail
    clear s1 s2 s3 n2;clear d0q d1q;have HT:=hZ (qIe w3 _ _ _ M0 n ps d (H.o.blw HB.o) (by omega) Hn.o hn2 HP.o HPL.o (by omega) Vq.o hd0 Sd.o (fun r hr x hx=>Sz.of_pow (HS.o.2 r hr x hx) (by omega)));refine HT.o.mono ?_;rintro e w4 ⟨R,l2,sq,sq2,rfl,hRS,hl2,hq1,hq2,hq3,hB⟩;clear HT;have RS:=hZ hRS;have HQ:=hZ (And.intro hq1 hq2);clear Vq;replace K:=K.b hB;replace Fd:=Fd.b hB;replace HB:=bT HB hB;clear hB;have hm0:0<(if d<0 then -d else d):=by split<;>omega
    have Hbq:Hid (∀r∈sq2,∀x∈r,Sz 4001 x):=hZ (fun r hr x hx=>by have h1:=hq3 r hr x hx;exact(Sd.o.of_le (by split at h1<;>omega)).mono (by omega));obtain⟨N,hN⟩:=eX (n-fr);have HNN:=hZ hN;have hN1:N<=1000:=by omega
    have HH:=hZ (HEL.o.norm HZ.o HMn.o rfl hq1 hq2 hfl HF.o Hfr2.o hfr);have HHs:=hZ (qOH (f:=f) (fr:=fr) (n:=n) Hbq.o SM.o (show ps.length<=M.length by rw[Hml.o];omega) (by rw[Hml.o];omega) hd0);have Hsq:Hid (sq2.length=ps.length):=hZ (by rw[hRS.len];exact hl2);have HHl:Hid ((qFQ sq2 M ps.length d f fr n).length=ps.length-f):=hZ (by unfold qFQ;rw[List.length_map,List.length_drop,Hsq.o]);have HHn:Hid (∀r∈qFQ sq2 M ps.length d f fr n,r.length=n-fr):=hZ (fun r hr=>by obtain⟨s,_,rfl⟩:=List.mem_map.1 hr;exact qFq);have HHa:Hid (∀t (h:t<(qFQ sq2 M ps.length d f fr n).length) (h':f+t<sq2.length),(qFQ sq2 M ps.length d f fr n)[t]=qJ1 sq2[f+t] M ps.length d fr N):=hZ (fun t h h'=>by rw[<-HNN.o];simp[qFQ]);generalize qFQ sq2 M ps.length d f fr n=Hm at *;have HRL:Hid (l2.length=ps.length):=hZ hl2;clear hRS hq1 hq2 hq3 hN hl2 HQ HF Hfr2
    go_wp2_with fail
    obtain⟨WB,hWB⟩:∃W:World,W=w4:=⟨_,rfl⟩;rw[<-hWB]at K Fd RS HB;have KL:=K;clear K;have HBL:Hid (Below WB.heap.size WB w4):=hZ (by rw[hWB];exact Below.refl _ _);have Wp:Hid (qCY w4 WB.heap.size 77 1 (.slice none 0 0) ([]:List Rw).length (([]:List Rw).map (rwC N))):=hZ (qCY.nil _ _ _ _);clear hWB
    go_loopw [10,11] (fun vr i wr=>∃(t:Nat) (gl:List Rw),f<=t/\t<=ps.length/\i=.int .i64 t/\Hid (gl.length=t-f)/\Hid (qCY wr WB.heap.size 77 1 vr gl.length (gl.map (rwC N)))/\Hid (qAB wr gl N (Hm.take (t-f)))/\Hid (Below WB.heap.size WB wr)) (fun _ i _=>ps.length-(intOf i).toNat)
    case atStart=>exact⟨f,[],by omega,by omega,rfl,hZ (by simp),Wp,hZ (by rw[Nat.sub_self];exact qAB.nil _ _),HBL⟩
    case round=>
     clear Wp HBL;obtain⟨t,gl,hft,ht,rfl,HG,Wp,RI,HBL⟩:=hrel;obtain⟨w4,rfl⟩:=eY wr;obtain⟨pa,pc,hv,hpc1,hpc2⟩:=Wp.o.form;subst hv;rw[HG.o]at hpc1;by_cases htl:t<ps.length
     ·skip
      have i1:(0:Int)<=(t:Int):=by omega
      have i2:(t:Int)<(ps.length:Int):=by omega
      have htl2:t<l2.length:=by rw[HRL.o];exact htl
      have hts:t<sq2.length:=by rw[Hsq.o];exact htl
      have htm:t-f<Hm.length:=by have:=HHl.o;omega
      obtain⟨gs,hgs⟩:=eX (l2[t].1);obtain⟨cs,hcs⟩:=eX (l2[t].2);have Hgs:=hZ (And.intro hgs hcs);clear hgs hcs
      go_wp2_with fail
      have HOl:=hZ Wp.o.lt;obtain⟨w5,hwd⟩:=eX w4.drew;have hB:=dB hwd;replace RI:=RI.b hB;replace Wp:=Wp.b hB;replace HBL:=bT HBL hB;clear hB;have HBr:Hid (qAc (fun b=>False) w5 w5):=hZ (qAc.refl _ _);refine qAU [10,11] (fun w'=>qAc (fun b=>False) w5 w') (by kernel_rfl) (by rw[hwd];exact qAc.refl _ _) (fun hHeld=> ?_);rw[hwd]at hHeld ⊢;clear hwd;have e0:=(RS.o.blw HBL.o).get t htl2;rw[Hgs.o.1,Hgs.o.2]at e0;obtain⟨s_q,a_q,n_q,c_q,t_q,h_q⟩:=(Fd.o.blw HBL.o);have d0q:=t_q.cell0;have d1q:=t_q.cell1;have Vq:=hZ h_q;have hlR:=(RS.o.blw HBL.o).lt;have hlD:=t_q.lt;clear t_q h_q;refine pU 0 48 ?_;refine pU 1 49 ?_;refine pU 2 50 ?_;refine pU 3 51 ?_;refine tU 4 52 (cF e0 hlR) ?_;refine pU 5 53 ?_;refine tV 6 54 (cF d0q hlD) (cF d1q hlD) ?_;refine pU 7 55 ?_;clear e0 d0q d1q hlR hlD;refine eU 8 fun K hK=> ?_;go_simp;obtain⟨hrw,hrl⟩:=(RS.o.blw HBL.o).rows.row t htl2;rw[Hgs.o.1]at hrw;have hcap:=(RS.o.rows.cap t htl2);rw[Hgs.o.2]at hcap;have hWO:WOf w5 (.slice (some ⟨gs,0,none⟩) ps.length cs) sq2[t]:=by have:=hrw.of_ (c:=cs) (by rw[hrl];exact hcap.1) hcap.2;rwa [hrl]at this
      have HX:=hZ (qLW _ _ sq2[t] w5 B M0.length n fr l M d hWO (by rw[hrl];omega) (KL.o.blw HBL.o) (by omega) (by omega) (by omega) (by omega) Vq.o hd0 hfr hn2 (Hbq.o _ (List.getElem_mem _)) SM.o Sd.o);rw[hrl,HNN.o,hl64]at HX;clear hWO hrw hrl hcap;refine HX.o.mono ?_;rintro e w6 ⟨g,rfl,hr9,hge,hB⟩;clear HX;have Rr:=hZ hr9;replace HBr:=oT HBr hB;have HGg:Hid (∀i (hi:i<gl.length),gl[i].1<g):=hZ (fun i hi=>Nat.lt_of_lt_of_le (RI.o.lt i hi) hge);replace RI:=RI.b hB;replace Wp:=Wp.b hB;replace Vq:=Vq.b hB;replace HBL:=bT HBL hB;clear hB;clear hr9 hge;clear Vq;have hft9:f+(t-f)=t:=by omega
      have hH9:=HHa.o (t-f) htm (by omega);simp only[hft9]at hH9;rw[<-hH9]at Rr;clear hH9 hft9;refine hK.out _ _ HBr.o (fun hHeld=> ?_);clear hK K
      try simp only[Act.put,sX1,sX2,sX3]
      refine eU 9 fun K hK=> ?_;go_simp;obtain⟨w7,hw⟩:=eX (w6.alloc (.cells #[.slice (some ⟨g,0,none⟩) N N] 77));have hB:=aB hw;obtain⟨gs9,hg9⟩:=eX w6.heap.size;have On':Hid (One w7 gs9 77 (.slice (some ⟨g,0,none⟩) N N)):=hZ (by rw[<-hw,<-hg9];exact One.new _ _ _);replace HBr:=oT HBr hB
      try rw[hw]
      try rw[hg9]
      replace RI:=RI.b hB;replace Wp:=Wp.b hB;replace Rr:=Rr.b hB;replace HBL:=bT HBL hB;clear hB;have On:=On';clear On' hw hg9;refine hK.out _ _ HBr.o (fun hHeld=> ?_);clear hK K
      try simp only[Act.put,sX1,sX2,sX3]
      refine lU 10 fun K hK=> ?_;refine qMt rfl 58 rfl _ _ 78 rfl WB.heap.size 77 i0 _ 1 24 Tryz.underlying78 Hi.o Hz0.o Hz1.o Hz2.o rfl (by decide) (by intro u hu x;simp[Value.cells]at hu;subst hu;intro e;cases e) _ gl.length (gl.map (rwC N)) rfl Wp.o ⟨gs9,0,none⟩ 1 1 [.slice (some ⟨g,0,none⟩) N N] rfl rfl ?_ (by simp[Value.oneCell']) (by intro u hu x;simp at hu;subst hu;intro e;cases e) (by decide) (by unfold maxLen;have:=HG.o;omega) (by have:=HG.o;omega) HBL.o.size ?_
      ·intro j u hu
       match j,hu with
       |0,hu=>simp at hu;subst hu;exact On.o.cell
       |j+1,hu=>simp at hu
      intro v5 w5' hown hon;have hN:∀b,(Value.slice pa gl.length pc).ownBlock=some b->qAi w7 b:=Wp.o.2;obtain⟨w8,rfl⟩:=eY w5';replace RI:=hZ (RI.o.only hon hN (fun i hi e=>qGY Wp.o e (RI.o.row i hi).1 rfl));replace Rr:=hZ (Rr.o.only hon hN (fun e=>qGY Wp.o e Rr.o rfl));replace HBL:=hZ (qAY HBL.o hon (fun b e=>(Wp.o.lt b e).1) HBL.o.size);replace Wp:=hZ hown;clear hon hown hN On;refine hK.out _ _ ?_;clear hK K
      try simp only[Act.put,sX1,sX2,sX3]
      refine pU 11 10 ?_;refine dU ?_;clear hHeld
      go_wp2_with fail
      go_roundw
      case rel=>exact⟨t+1,gl++[(g,N)],by omega,by omega,by go_num,hZ (by have:=HG.o;simp;omega),hZ (by have h1:=Wp.o;rw[List.length_append,List.map_append];exact h1),hZ (by rw[show t+1-f=t-f+1 by omega,List.take_succ_eq_append_getElem htm];exact RI.o.snoc Rr.o (by rw[HHn.o _ (List.getElem_mem _),HNN.o]) (fun i hi=>by have:=HGg.o i hi;omega) (Nat.le_refl _) (by omega)),HBL⟩
      case measure=>simp[intOf];omega
     ·skip
      have s1:¬(t:Int)<(ps.length:Int):=by omega
      have Htt:Hid (t-f=Hm.length):=hZ (by have:=HHl.o;omega)
      go_wp2_with fail
      go_ret;have h1:=RI.o;rw[List.take_of_length_le (by have:=Htt.o;omega)]at h1;exact⟨_,Hm,rfl,qJk.of_own Wp.o h1,HHn.o,HHs.o,by have:=HHl.o;omega,HH.o,HB.o.trans (HBL.o.mono HB.o.size)⟩
  ·skip
   obtain rfl:f=ps.length:=by omega
   have HN:=hZ (HEL.o.norm0 HZ.o (fr:=fr) (fun p hp=>by obtain⟨q,hq,rfl⟩:=List.mem_iff_getElem.1 hp;exact HF.o q hq hq))
   go_wp2_with fail
   go_ret;exact⟨_,[],rfl,qAb.nil _ _ (by omega),by simp,by simp,by simp,HN.o,HB.o⟩
theorem qB3{α:Type}{P:α->Prop}{l:List α}{j:Nat}(hj:j<l.length)(h:∀x∈l.take j,P x)(h2:P l[j]):∀x∈l.take (j+1),P x:=by
 intro x hx;rw[List.take_succ_eq_append_getElem hj]at hx;rcases List.mem_append.1 hx with h3|h3
 ·exact h x h3
 ·rw[List.mem_singleton.1 h3];exact h2
theorem qN5(v:Value)(m:List (List Int))(w:World)(h:qA8 w v m):
 Calls Tryz.prog 67 #[v] w fun e w'=>e=.returned (.int .i64 (qBv m))/\Below w.heap.size w w':=by
 have H:=hZ h;obtain⟨av,cv,rfl,q1,q2⟩:=h.form;clear h;by_cases hr:64<m.length
 ·have r1:(64:Int)<(m.length:Int):=by omega
  have HZ:=hZ (qKg hr)
  go_enter Tryz.func67,Tryz.ntmps67
  go_wp2_with fail
  go_ret;exact⟨by rw[HZ.o];rfl,Below.refl _ _⟩
 ·have r1:¬(64:Int)<(m.length:Int):=by omega
  go_enter Tryz.func67,Tryz.ntmps67
  go_wp2_with fail
  go_loopw [16] (fun i wr=>∃j:Nat,j<=m.length/\i=.int .i64 j/\Hid (∀r∈m.take j,r.length<=128)/\Hid (Below w.heap.size w wr)) (fun i _=>m.length-(intOf i).toNat)
  case atStart=>exact⟨0,by omega,rfl,hZ (by simp),hZ (Below.refl _ _)⟩
  case round=>
   obtain⟨j,hj,rfl,HT,HB⟩:=hrel;by_cases hlt:j<m.length
   ·obtain⟨b,cap,a,c,hv,hb,n1,HI,g1,g2⟩:=(H.o.below HB.o).at_ j hlt
    injection hv with f1 f2 f3;subst f1;clear f2 f3;have i1:(0:Int)<=(j:Int):=by omega
    have i2:(j:Int)<(m.length:Int):=by omega
    have HI:=hZ HI;have HM:Hid (m[j]∈m):=hZ (List.getElem_mem hlt);have HS:=hZ (fun h2=>qB3 (P:=fun r=>r.length<=128) hlt HT.o h2);clear HT;generalize m[j]=r at *;by_cases hx:128<r.length
    ·have s1:(128:Int)<(r.length:Int):=by omega
     have HZ:=hZ (qKh (by omega) HM.o hx)
     go_wp2_with fail
     go_ret;exact⟨by rw[HZ.o];rfl,HB.o⟩
    ·have s1:¬(128:Int)<(r.length:Int):=by omega
     go_wp2_with fail
     go_roundw
     case rel=>exact⟨j+1,by omega,by go_num,hZ (HS.o (by omega)),HB⟩
     case measure=>simp[intOf];omega
   ·have hC:∀r∈m,r.length<=128:=by have:=HT.o;rwa [List.take_of_length_le (by omega)]at this
    have HC:=hZ hC;clear hC HT
    go_wp2_with fail
    go_loopw [26] (fun i wr=>∃j:Nat,j<=m.length/\i=.int .i64 j/\Hid (∀r∈m.take j,r.length=(m[0]?.getD []).length)/\Hid (Below w.heap.size w wr)) (fun i _=>m.length-(intOf i).toNat)
    case atStart=>exact⟨0,by omega,rfl,hZ (by simp),HB⟩
    case round=>
     clear HB hj hlt;obtain⟨j,hj,rfl,HT,HB⟩:=hrel;by_cases hlt:j<m.length
     ·obtain⟨b,cap,a,c,hv,hb,n1,HI,g1,g2⟩:=(H.o.below HB.o).at_ j hlt
      have h0:0<m.length:=by omega
      obtain⟨b0,cap0,a0,c0,hv0,hb0,n0,HI0,g10,g20⟩:=(H.o.below HB.o).at_ 0 h0;injection hv with f1 f2 f3;subst f1;clear f2 f3;injection hv0 with f1 f2 f3;injection f1 with f1;injection f1 with f1;subst f1;clear f2 f3;have i1:(0:Int)<=(j:Int):=by omega
      have i2:(j:Int)<(m.length:Int):=by omega
      have i3:(0:Int)<(m.length:Int):=by omega
      clear HI HI0;have HM:Hid (m[j]∈m):=hZ (List.getElem_mem hlt);have HS:=hZ (fun h2=>qB3 (P:=fun r=>r.length=(m[0]?.getD []).length) hlt HT.o h2);have HE:Hid ((m[0]?.getD []).length=m[0].length):=hZ (by simp[List.getElem?_eq_getElem h0]);have HZ:=hZ (fun h3=>qL1 (by omega) HC.o h0 HM.o h3);clear HT;generalize m[j]=r at *;generalize m[0]=r0 at *;by_cases hx:r.length=r0.length
      ·have s1:((r.length:Int)==(r0.length:Int))=true:=by simp[hx]
       have s2:((r.length:Int) != (r0.length:Int))=false:=by simp[hx]
       have s3:(r.length==r0.length)=true:=by simp[hx]
       have s4:(r.length != r0.length)=false:=by simp[hx]
       have HX:=hZ hx;clear hx
       go_wp2_with fail
       go_roundw
       case rel=>exact⟨j+1,by omega,by go_num,hZ (HS.o (by rw[HE.o];exact HX.o)),HB⟩
       case measure=>simp[intOf];omega
      ·have s1:((r.length:Int)==(r0.length:Int))=false:=by simp;omega
       have s2:((r.length:Int) != (r0.length:Int))=true:=by simp;omega
       have s3:(r.length==r0.length)=false:=by simp;omega
       have s4:(r.length != r0.length)=true:=by simp;omega
       have HX:=hZ (HZ.o hx);clear hx
       go_wp2_with fail
       go_ret;exact⟨by rw[HX.o];rfl,HB.o⟩
     ·have hE:∀r∈m,r.length=(m[0]?.getD []).length:=by have:=HT.o;rwa [List.take_of_length_le (by omega)]at this
      have HE:=hZ hE;clear hE HT
      go_wp2_with fail
      go_loopw [40] (fun i wr=>∃j:Nat,j<=m.length/\i=.int .i64 j/\Hid (∀r∈m.take j,∀x∈r, -1099511627776<=x/\x<=1099511627776)/\Hid (Below w.heap.size w wr)) (fun i _=>m.length-(intOf i).toNat)
      case atStart=>exact⟨0,by omega,rfl,hZ (by simp),HB⟩
      case round=>
       clear HB hj hlt;obtain⟨j,hj,rfl,HT,HB⟩:=hrel;by_cases hlt:j<m.length
       ·obtain⟨b,cap,a,c,hv,hb,n1,HI,g1,g2⟩:=(H.o.below HB.o).at_ j hlt
        injection hv with f1 f2 f3;subst f1;clear f2 f3;have i1:(0:Int)<=(j:Int):=by omega
        have i2:(j:Int)<(m.length:Int):=by omega
        have h0:0<m.length:=by omega
        have HI:=hZ HI;have HM:Hid (m[j]∈m):=hZ (List.getElem_mem hlt);have HS:=hZ (fun h2=>qB3 (P:=fun r=>∀x∈r, -1099511627776<=x/\x<=1099511627776) hlt HT.o h2);have HZ:Hid (∀x∈m[j],(x< -1099511627776\/1099511627776<x)->qBv m=5):=hZ (fun x hx h4=>qL2 (by omega) HC.o h0 (fun r hr=>by rw[HE.o r hr];simp[List.getElem?_eq_getElem h0]) HM.o hx h4);clear HT;generalize m[j]=r at *
        go_wp2_with fail
        go_loopw [46] (fun i w2=>∃k:Nat,k<=r.length/\i=.int .i64 k/\Hid (∀x∈r.take k, -1099511627776<=x/\x<=1099511627776)/\Hid (Below wr.heap.size wr w2)) (fun i _=>r.length-(intOf i).toNat)
        case atStart=>exact⟨0,by omega,rfl,hZ (by simp),hZ (Below.refl _ _)⟩
        case round=>
         obtain⟨k,hk,rfl,HT,HB2⟩:=hrel;by_cases hk2:k<r.length
         ·obtain⟨d,e1,hv1,hb1,m1⟩:=qAg.at_ (HI.o.below HB2.o) k hk2
          injection hv1 with f1 f2 f3;subst f1;clear f2 f3;have k1:(0:Int)<=(k:Int):=by omega
          have k2:(k:Int)<(r.length:Int):=by omega
          have HT2:=hZ (fun h2=>qB3 (P:=fun x:Int=> -1099511627776<=x/\x<=1099511627776) hk2 HT.o h2);have HZ2:=hZ (HZ.o r[k] (List.getElem_mem hk2));have HB3:=hZ (HB.o.trans (HB2.o.mono HB.o.size));generalize r[k]=x at *;by_cases hx:x< -1099511627776
          ·have HX:=hZ (HZ2.o (Or.inl hx))
           go_wp2_with fail
           go_ret;exact⟨by rw[HX.o];rfl,HB3.o⟩
          ·by_cases hx2:1099511627776<x
           ·have HX:=hZ (HZ2.o (Or.inr hx2))
            go_wp2_with fail
            go_ret;exact⟨by rw[HX.o];rfl,HB3.o⟩
           ·go_wp2_with fail
            go_roundw
            case rel=>exact⟨k+1,by omega,by go_num,hZ (HT2.o ⟨by omega,by omega⟩),HB2⟩
            case measure=>simp[intOf];omega
         ·have HB3:=hZ (HB.o.trans (HB2.o.mono HB.o.size))
          have HS2:=hZ (HS.o (by have:=HT.o;rwa [List.take_of_length_le (by omega)]at this))
          go_wp2_with fail
          go_roundw
          case rel=>exact⟨j+1,by omega,by go_num,HS2,HB3⟩
          case measure=>simp[intOf];omega
       ·have HX:=hZ (qGn.2 ⟨by omega,HC.o,HE.o,by have:=HT.o;rwa [List.take_of_length_le (by omega)]at this⟩)
        go_wp2_with fail
        go_ret;exact⟨by rw[HX.o];rfl,HB.o⟩
def qBY(m:List (List Int)):Nat:=(m[0]?.getD []).length
theorem qD3.sml{m:List (List Int)}(h:qD3 m):Sml m:=⟨h.rows,fun r hr x hx=>by
 have:=h.small r hr x hx;have e:(2:Nat)^40=1099511627776:=by decide
 rw[e];omega⟩
theorem qD3.len{m:List (List Int)}(h:qD3 m):∀r∈m,r.length=qBY m:=h.even
theorem qD3.cols_{m:List (List Int)}(h:qD3 m):qBY m<=128:=by
 unfold qBY;cases m with
 |nil=>simp
 |cons r m=>simpa using h.cols r (by simp)
def qEr(H:List (List Int))(e:Ending)(w':World):Prop:=
 (e=.returned (.tuple #[.slice none 0 0,.int .i64 4])/\∃r∈H,∃x∈r,¬qH4 x)\/ ∃u,e=.returned (.tuple #[u,.int .i64 0])/\qA8 w' u H/\∀r∈H,∀x∈r,qH4 x
theorem qH2.small{w0 w:World}{m:List (List Int)}{n fr:Nat}{e:Ending}(h:qH2 w0 m n fr e w)(hm:m.length<=64)(hn:n<=1000):∃vr H,e=.returned vr/\Below w0.heap.size w0 w/\(∀r∈H,r.length=n-fr)/\H.length<=m.length/\qAW (m.map vec) fr (H.map vec)/\
 Calls Tryz.prog 68 #[vr] w fun e2 w2=>Below w.heap.size w w2/\qEr H e2 w2:=by
 obtain⟨vr,H,he,h1,h2,h3,h4,h5,h6⟩:=h;refine⟨vr,H,he,h6,h2,h4,h5,(qLt vr H w h1 (by omega) (fun r hr=>by rw[h2 r hr];omega) (fun r hr x hx=>(h3 r hr x hx).mono (by omega))).mono ?_⟩;rintro e2 w2 ⟨k1,k2⟩;exact⟨k1,k2⟩
end Go.Proofs.YtkjhlkngihponaaGreatDoor
