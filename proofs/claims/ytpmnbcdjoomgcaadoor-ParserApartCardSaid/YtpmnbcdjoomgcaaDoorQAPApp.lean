/- Appending one own row to another. -/
import Derived.Test.YtpmnbcdjoomgcaaDoorQAPPut3
import Derived.Test.YtpmnbcdjoomgcaaDoorQAPPut
import Derived.Test.YtpmnbcdjoomgcaaDoorQAPChk2
import Derived.Test.YtpmnbcdjoomgcaaDoorQAGSeq
import Derived.Laws.AppendOwnNone
set_option linter.unusedVariables false
set_option linter.unusedSimpArgs false
set_option maxHeartbeats 4000000
set_option maxRecDepth 100000
namespace Go.Proofs.YtpmnbcdjoomgcaaDoor
open Go.RowKit
theorem qCq(B b g o:Nat)(w0 w w':World)(d:Dc)(y:Ls)(t:Bs)(l:Bool)(ts:List Bs)(n:Nat)(h:PWk B w0 w b g o d y t l)(hg:g<B)(hT:1<B)(hn:ts.length=n)(hm:n<=1000)(hlen:t.length+(qAY l ts).length<=90000000)
 (hw:w.alloc (.cells (ts.map (fun s=>Value.string ⟨s.toArray⟩)).toArray 9)=w'):
 Calls Tryd.prog 59 #[.pointer (some ⟨b,0,none⟩),.slice (some ⟨w.heap.size,0,none⟩) n n] w' fun e w2=>e=.returned (.tuple #[])/\PWk B w0 w2 b g o d y (t++qAY l ts) (l|| !ts.isEmpty)/\KpX PX w w2:=by
 have hst:qCe w' (.slice (some ⟨w.heap.size,0,none⟩) n n) ts:=by rw[<-hw];exact qCe.lit w ts n hn hm
 have hb:Below w.heap.size w w':=by rw[<-hw];exact qAa _ _
 have h':=h.below hg hT hb;refine(qCI B b t l _ ts w' h'.s hst hlen (by omega) h'.z).mono ?_;rintro e w2 ⟨rfl,hs,hk⟩;exact⟨rfl,h'.call hg hT hs hk,(KpX.of_below (X:=PX) hb).trans hk.2⟩
theorem qH2(l:List Bs):qHi l 0=l.flatten:=by simp[qHi]
theorem qD3(l:List (List Pr))(k:Nat)(hk:k<l.length):qAr (decide (0<k)) (l.drop k)=(if 0<k then [32,43]else [])++(32::qAm (qFN l[k])++(58::prL false l[k].tail))++qAr true (l.drop (k+1)):=by
 rw[List.drop_eq_getElem_cons hk,qAr];by_cases h:0<k<;>simp[h]
theorem qEE(l:List (Int×Int))(k:Nat)(hk:k<l.length):qBa (decide (0<k)) (l.drop k)=(if 0<k then [44]else [])++32::qAm l[k].1++58::32::qAm l[k].2++qBa true (l.drop (k+1)):=by
 rw[List.drop_eq_getElem_cons hk,qBa];by_cases h:0<k<;>simp[h]
theorem qDv{d:Dc}(h:qAN d=true):(d.kind=3->d.brs=[])/\(d.kind=4->d.rows=[]):=by
 unfold qAN at h;refine⟨fun hk=> ?_,fun hk=> ?_⟩
 ·rw[if_neg (by omega),if_neg (by omega),if_pos hk]at h
  simp only[Bool.and_eq_true,List.isEmpty_iff]at h;exact h.1.1.2
 ·rw[if_neg (by omega),if_neg (by omega),if_neg (by omega),if_pos hk]at h
  simp only[Bool.and_eq_true,List.isEmpty_iff]at h;exact h.1.2
theorem qHn(B b g o:Nat)(d:Dc)(y:Ls)(t:Bs)(w:World)(h:PWk B w w b g o d y t false)(hg:g<B)(hT:1<B)(he:qFk d=0)(hD:DL 10000 d)(hsz:(qBw d 0).length<=1000000)(hlen:t.length<=60000000):
 Calls Tryd.prog 30 #[.pointer (some ⟨b,0,none⟩),.pointer (some ⟨g,o,none⟩)] w fun e w'=>e=.returned (.tuple #[])/\PWk B w w' b g o d y (t++qBw d 0) false:=by
 obtain⟨hs,hnm,hrg⟩:=qEQ he;obtain⟨hk0,hk4⟩:=qDp hs;obtain⟨hns,hls,hrs,hbs⟩:=qJV hrg;have hnmd:=hnm;unfold qDL at hnmd;simp only[Bool.and_eq_true,List.all_eq_true]at hnmd;obtain⟨⟨hn0,⟨hnt,hng⟩,hnb⟩,hnr⟩:=hnmd;obtain⟨kn,hkn⟩:∃k:Nat,d.kind=(k:Int):=⟨d.kind.toNat,by omega⟩;have hk5:kn<5:=by omega
 obtain⟨kw,hkw⟩:=eX (qAo.getD kn []);have hkl:kw.length<=5:=by
  rw[<-hkw];have:∀i:Fin 5,(qAo.getD i.1 []).length<=5:=by decide
  exact this ⟨kn,hk5⟩
 have hline:qBw d 0=kw++32::d.name++(qAf d).flatten++[59,10]:=by
  unfold qBw;rw[qH2,hkn,Int.toNat_natCast,hkw]
 rw[hline]at hsz ⊢;simp only[List.length_append,List.length_cons,List.length_nil]at hsz;have HW:=hZ h;have HN0:=hZ hn0;have HNs:=hZ hns;have HLs:Hid ((okL d.take=true/\qAJ d.take=true)/\(okL d.give=true/\qAJ d.give=true)/\okL d.back=true/\qAJ d.back=true):=hZ ⟨⟨hls.1,hnt⟩,⟨hls.2.1,hng⟩,hls.2.2,hnb⟩;have HRs:=hZ hrs;have HRn:=hZ hnr;have HRo:=hZ (qE0 hs);have HBs:=hZ hbs;have HS:=hZ hs;have HD:=hZ hD;have HKn:=hZ hkn;have HSz:=hZ hsz;have c0:w.cell? ⟨g,o,none⟩=some (.int .i64 (kn:Int)):=by have:=h.d.row 0 _ rfl;rw[<-hkn];exact this
 obtain⟨bw,hbw⟩:=eX w.heap.size;obtain⟨w1,hw1⟩:=eX (w.alloc (.cells #[.string ⟨#[105,116,101,109]⟩,.string ⟨#[114,117,108,101]⟩,.string ⟨#[115,112,97,119,110]⟩,.string ⟨#[108,111,111,116]⟩,.string ⟨#[116,97,120]⟩] 114));have hB1:Below w.heap.size w w1:=by rw[<-hw1];exact qAa _ _
 have hblk:qAy w1 bw 114 (qAo.map sv8):=by rw[<-hw1,<-hbw];exact qAy.new _ _ _
 have cw:w1.cell? ⟨bw,kn,none⟩=some (.string ⟨kw.toArray⟩):=by
  rw[hblk.cell kn,<-hkw];have:kn=0\/kn=1\/kn=2\/kn=3\/kn=4:=by omega
  rcases this with rfl|rfl|rfl|rfl|rfl<;>rfl
 have h1:=h.below hg hT hB1;have c0:w1.cell? ⟨g,o,none⟩=some (.int .i64 (kn:Int)):=by have:=h1.d.row 0 _ rfl;rw[<-hkn];exact this
 have c1:w1.cell? ⟨g,o+1,none⟩=some (.string ⟨d.name.toArray⟩):=h1.d.row 1 _ rfl;have hz1:bw<w1.heap.size:=hblk.lt;obtain⟨wd,hwd⟩:=eX w1.drew;have hBd:Below w1.heap.size w1 wd:=by rw[<-hwd];exact qAc _
 have HWd:=hZ (h1.below hg hT hBd);obtain⟨wa,hwa⟩:=eX (wd.alloc (.cells #[.string ⟨kw.toArray⟩,.string ⟨d.name.toArray⟩] 9));have HPW:Hid (qAY false [kw,d.name]=kw++32::d.name):=hZ (by
  rw[qAY,qAe (qDm HN0.o)];simp[qAY])
 have HCp:=hZ (qBZ B b g o w wd wa d y t false [kw,d.name] 2 HWd.o hg hT rfl (by omega) (by rw[HPW.o];simp;omega) hwa);have hi0:(0:Int)<=(kn:Int):=by omega
 have hi5:(kn:Int)<5:=by omega
 clear h hs hnm hrg hns hls hrs hbs hn0 hnt hng hnb hnr hD hkn hkw hline hsz hB1 h1 hBd hblk he HW
 go_enter Tryd.func30,Tryd.ntmps30
 go_wp2_with fail
 clear hw1 hbw;refine qAs [11,12] (fun W=>W.cell? ⟨g,o,none⟩=some (.int .i64 (kn:Int))/\W.cell? ⟨g,o+1,none⟩=some (.string ⟨d.name.toArray⟩)/\W.cell? ⟨bw,kn,none⟩=some (.string ⟨kw.toArray⟩)) (by kernel_rfl) (⟨c0,c1,cw⟩) (fun hHeld=> ?_);rw[hwd]at hHeld ⊢;clear hwd c0 c1 cw;refine pU 0 10 ?_;refine pU 1 11 ?_;refine pU 2 12 ?_;refine pU 3 13 ?_;refine qAb 4 14 (v:= ?_) rfl rfl (by kernel_rfl) (by kernel_rfl) (by kernel_rfl) (by kernel_rfl) (by kernel_rfl) (fun _ _ _ h=>h) (by rfl) ?_ (by assumption) ?_;rotate_left
 ·(intro w hSw;go_simp;first|done|with_reducible rfl)
 simp only[sX1,sX2,sX3];refine pU 5 15 ?_;refine qAb 6 16 (v:= ?_) rfl rfl (by kernel_rfl) (by kernel_rfl) (by kernel_rfl) (by kernel_rfl) (by kernel_rfl) (fun _ _ _ h=>h) (by rfl) ?_ (by assumption) ?_;rotate_left
 ·(intro w hSw;go_simp;first|done|with_reducible rfl)
 simp only[sX1,sX2,sX3];refine pU 7 17 ?_;refine pU 8 18 ?_;refine pU 9 19 ?_;refine qAb 10 20 (v:= ?_) rfl rfl (by kernel_rfl) (by kernel_rfl) (by kernel_rfl) (by kernel_rfl) (by kernel_rfl) (fun _ _ _ h=>h) (by rfl) ?_ (by assumption) ?_;rotate_left
 ·(intro w hSw;go_simp;first|done|with_reducible rfl)
 simp only[sX1,sX2,sX3];clear hHeld;refine lU 11 fun K hK=> ?_;go_simp;refine hK.out _ _ ?_;clear hK K
 try simp only[Act.put,sX1,sX2,sX3]
 refine lU 12 fun K hK=> ?_;go_simp;clear hwa;refine HCp.o.mono ?_;rintro e w2 ⟨rfl,h2⟩;rw[HPW.o]at h2;have HW:=hZ h2;clear h2 HCp HPW HWd
 go_wp2_with fail
 refine hK.out _ _ ?_;clear hK K
 try simp only[Act.put,sX1,sX2,sX3]
 refine dU ?_;obtain⟨t1,ht1⟩:=eX (t++(kw++32::d.name));have hl1:t1.length<=61000100:=by rw[<-ht1];have:=HSz.o;simp;omega
 rw[ht1]at HW;have HT1:=hZ ht1;have c0:w2.cell? ⟨g,o,none⟩=some (.int .i64 (kn:Int)):=by have:=HW.o.d.row 0 _ rfl;rw[<-HKn.o];exact this
 have HPt:Hid ((qAf d).flatten.length<=1000000):=hZ (by have:=HSz.o;omega);clear ht1 hz1
 go_upto_block 0 with fail
 go_cut []from 9 (fun wc=>Hid (PWk B w wc b g o d y (t1++(qAf d).flatten) true))
 case first=>
  have h5:kn=0\/kn=1\/kn=2\/kn=3\/kn=4:=by omega
  rcases h5 with rfl|rfl|rfl|hkk|hkk
  ·have HC:=hZ (qIC B b g o d y t1 w2 ⟨HW.o.s,PKp.refl _ _,HW.o.d,HW.o.p,HW.o.z⟩ hg hT ⟨HNs.o.1,HNs.o.2.1⟩ (by omega))
   have HP:Hid (t1++(qAf d).flatten=t1++qB0 qAQ d.object++qB0 qBf d.mixed++qB0 qCc d.coin++qAz qDb d.wear++qBb d.bind++qAz qAO d.level):=hZ (by unfold qAf;rw[if_pos (show d.kind=0 from HKn.o)];simp)
   go_wp2_with fail
   refine HC.o.mono ?_;rintro e w3 ⟨rfl,h3⟩;rw[<-HP.o]at h3;have H3:Hid (PWk B w w3 b g o d y (t1++(qAf d).flatten) true):=hZ ⟨h3.s,HW.o.k.trans h3.k,h3.d,h3.p,h3.z⟩;clear h3 HC HP
   go_wp2_with fail
   go_meet
   case rel=>exact H3
  ·have HC:=hZ (qFD B b g o d y t1 w2 ⟨HW.o.s,PKp.refl _ _,HW.o.d,HW.o.p,HW.o.z⟩ hg hT ⟨HNs.o.2.1,HNs.o.2.2.1,HNs.o.2.2.2.1,HNs.o.2.2.2.2⟩ HLs.o HD.o (by have:=HPt.o;unfold qAf at this;rw[if_neg (by rw[HKn.o];decide),if_pos (by rw[HKn.o];decide)]at this;simp at this;omega) (by omega))
   have HP:Hid (t1++(qAf d).flatten=t1++qAz qAO d.level++qAz qCS d.time++qAl d.chance d.of_++qAB qDc d.take++qAB qDe d.give++qAB qDf d.back):=hZ (by unfold qAf;rw[if_neg (by rw[HKn.o];decide),if_pos (by rw[HKn.o];decide)];simp)
   go_wp2_with fail
   refine HC.o.mono ?_;rintro e w3 ⟨rfl,h3⟩;rw[<-HP.o]at h3;have H3:Hid (PWk B w w3 b g o d y (t1++(qAf d).flatten) true):=hZ ⟨h3.s,HW.o.k.trans h3.k,h3.d,h3.p,h3.z⟩;clear h3 HC HP
   go_wp2_with fail
   go_meet
   case rel=>exact H3
  ·have HC:=hZ (qFD B b g o d y t1 w2 ⟨HW.o.s,PKp.refl _ _,HW.o.d,HW.o.p,HW.o.z⟩ hg hT ⟨HNs.o.2.1,HNs.o.2.2.1,HNs.o.2.2.2.1,HNs.o.2.2.2.2⟩ HLs.o HD.o (by have:=HPt.o;unfold qAf at this;rw[if_neg (by rw[HKn.o];decide),if_pos (by rw[HKn.o];decide)]at this;simp at this;omega) (by omega))
   have HP:Hid (t1++(qAf d).flatten=t1++qAz qAO d.level++qAz qCS d.time++qAl d.chance d.of_++qAB qDc d.take++qAB qDe d.give++qAB qDf d.back):=hZ (by unfold qAf;rw[if_neg (by rw[HKn.o];decide),if_pos (by rw[HKn.o];decide)];simp)
   go_wp2_with fail
   refine HC.o.mono ?_;rintro e w3 ⟨rfl,h3⟩;rw[<-HP.o]at h3;have H3:Hid (PWk B w w3 b g o d y (t1++(qAf d).flatten) true):=hZ ⟨h3.s,HW.o.k.trans h3.k,h3.d,h3.p,h3.z⟩;clear h3 HC HP
   go_wp2_with fail
   go_meet
   case rel=>exact H3
  ·have HKd:Hid (d.kind=3):=hZ (by rw[HKn.o,hkk];rfl)
   have e0:((kn:Int)==0)=false:=by rw[hkk];decide
   have n0:(kn==0)=false:=by rw[hkk];decide
   have m0:¬kn=0:=by omega
   have e1:((kn:Int)==1)=false:=by rw[hkk];decide
   have n1:(kn==1)=false:=by rw[hkk];decide
   have m1:¬kn=1:=by omega
   have e2:((kn:Int)==2)=false:=by rw[hkk];decide
   have n2:(kn==2)=false:=by rw[hkk];decide
   have m2:¬kn=2:=by omega
   have e3:((kn:Int)==3)=true:=by rw[hkk];decide
   have n3:(kn==3)=true:=by rw[hkk];decide
   clear hkk;have hbr:=(qDv HS.o).1 HKd.o;have HP:Hid ((qAf d).flatten=qAr false d.rows):=hZ (by unfold qAf;rw[if_neg (by rw[HKd.o];decide),if_neg (by rw[HKd.o];decide),hbr];simp[qBa]);have HPt2:Hid (t1.length+(qAr false d.rows).length<=62000100):=hZ (by have:=HPt.o;rw[HP.o]at this;omega);obtain⟨r1,r2,hyr, -,-⟩:=TSl.form HW.o.d.ls.r;obtain⟨rn,hrn⟩:=eX d.rows.length;have c15:w2.cell? ⟨g,o+15,none⟩=some (.slice r1 rn r2):=by have:=HW.o.d.row 15 _ rfl;rw[this,hyr,hrn]
   have hrm:rn<=10000:=by have:=HD.o.2.2.2.1;omega
   have Hrn:=hZ hrn;have Hyr:Hid (y.r=.slice r1 rn r2):=hZ (by rw[hyr,hrn]);clear hrn hyr hbr
   go_wp2_with fail
   clear c15 c0
   go_loopw [45] (fun iv wr=>∃(j:Nat) (t':Bs),j<=rn/\iv=.int .i64 j/\Hid (t1++qAr false d.rows=t'++qAr (decide (0<j)) (d.rows.drop j))/\Hid (PWk B w wr b g o d y t' true)) (fun iv _=>rn-(intOf iv).toNat)
   case atStart=>exact⟨0,t1,by omega,rfl,hZ rfl,HW⟩
   case round=>
    clear HW;obtain⟨j,t',hj,rfl,HE,HW⟩:=hrel;by_cases hlt:j<rn
    ·have h1:j<d.rows.length:=by have:=Hrn.o;omega
     obtain⟨gr,o2,cpr,csr,ur,hv,hbr,hur0,hpr⟩:=qAU.nthB HW.o.d.ls.r j h1;have hru:=HRo.o _ (List.getElem_mem h1);have hrl:=HD.o.2.2.2.2.2 _ (List.getElem_mem h1);have hrm2:=HRn.o _ (List.getElem_mem h1);have hrk2:=HRs.o _ (List.getElem_mem h1);have hE:=HE.o;rw[qD3 _ j h1]at hE;rw[Hyr.o]at hv;injection hv with hv hq1 hv2;have q3:wr.cell? ⟨gr,o2+j,none⟩=some ur:=by rw[cell_of_row _ gr (o2+j) _ _ _ hbr];exact hur0
     obtain⟨rr,hr⟩:=eX (d.rows[j]);rw[hr]at hru hpr hrl hrm2 hrk2 hE;cases rr with
     |nil=>cases hru
     |cons p r=>
      obtain⟨a9,c9,rfl,hc9,hc99⟩:=TSl.form hpr;obtain⟨gp,op,rfl,htl⟩:=TSl.tail hpr;have HTl:=hZ htl;have HPR:=hZ hpr;have HNr:Hid (qAJ r=true):=hZ hrm2;have hok2:qAj p.n=true/\okL r=true:=by
       unfold okL at hrk2;rw[List.all_cons,Bool.and_eq_true]at hrk2;exact hrk2
      have HOp:=hZ hok2.1;have HOr:=hZ hok2.2;have HEE:Hid (t1++qAr false d.rows=t'++(if 0<j then [32,43]else [])++(32::qAm p.n++[58])++prL false r++qAr true (d.rows.drop (j+1))):=hZ (by rw[hE];simp[qFN]);have hbd:t'.length<=62000100:=by
       have h8:=congrArg List.length hE;have h9:=HPt2.o;simp only[List.length_append]at h8;omega
      have hl9:(p::r).length=r.length+1:=rfl;rw[hl9]at q3 hc9 HTl HPR;simp only[List.length_cons]at hrl;obtain⟨m,hm⟩:=eX r.length;rw[hm]at q3 hrl hc9 HTl HPR;have Hm:=hZ hm;have hn0:(0:Int)<=(j:Int):=by omega
      have hn2:(j:Int)<(rn:Int):=by omega
      have hp5:(0:Int)<((m+1:Nat):Int):=by omega
      subst hv;clear hru hpr hr hq1 hv2 h1 hbr hur0 hl9 hrm2 hrk2 hm htl hE HE hok2;by_cases hj0:0<j
      ·have hj1:(0:Int)<(j:Int):=by omega
       obtain⟨wp,hwp⟩:=eX (wr.alloc (.cells #[.string ⟨#[43]⟩] 9));have HPP:Hid (qAY true [[43]]=[32,43]):=hZ (by decide);have HCp:=hZ (qCq B b g o w wr wp d y t' true [[43]] 1 HW.o hg hT rfl (by omega) (by rw[HPP.o];simp;omega) hwp)
       go_wp2_with fail
       clear q3;refine HCp.o.mono ?_;rintro e wA ⟨rfl,hA,hKA⟩;rw[HPP.o]at hA;have HWA:=hZ hA;have HKA:=hZ hKA;have HEF:Hid (t1++qAr false d.rows=(t'++[32,43])++(32::qAm p.n++[58])++prL false r++qAr true (d.rows.drop (j+1))):=hZ (by rw[HEE.o,if_pos hj0]);clear hA hKA HCp HPP HW hwp HEE;have hpz:=qAD.nth (HPR.o.kp HKA.o (by decide)) 0 (by simp);obtain⟨gq,oq,cq,hv,y0, -,-⟩:=hpz;injection hv with hv hqa hqb;injection hv with hv;injection hv with e1 e2;subst e1 e2;clear hqa hqb;have y0:wA.cell? ⟨gp,op,none⟩=some (.int .i64 p.n):=by simpa using y0
       have HCi:=hZ (qAM p.n wA HOp.o HWA.o.p)
       go_wp2_with fail
       refine HCi.o.mono ?_;rintro e wB ⟨rfl,hB⟩;have HWB:=hZ (HWA.o.below hg hT hB);have HKB:=hZ (HKA.o.trans (KpX.of_below (X:=PX) hB));obtain⟨wa,hwa⟩:=eX (wB.alloc (.cells #[.string ⟨(qAm p.n).toArray⟩,.string ⟨#[58]⟩] 9));have HPW:Hid (qAY true [qAm p.n,[58]]=32::qAm p.n++[58]):=hZ (by rw[qAe (qAx _)];simp[qAY]);have HCp:=hZ (qCq B b g o w wB wa d y (t'++[32,43]) true [qAm p.n,[58]] 2 HWB.o hg hT rfl (by omega) (by rw[HPW.o];have:=qAi HOp.o;simp;omega) hwa);clear hB HCi y0 HWA HKA
       go_wp2_with fail
       refine HCp.o.mono ?_;rintro e wC ⟨rfl,hC,hKC⟩;rw[HPW.o]at hC;have HWC:=hZ hC;have HKC:=hZ (HKB.o.trans hKC);clear hC hKC HCp HPW HWB HKB hwa;by_cases hc1:c9=1
       ·obtain rfl:m=0:=by omega
        subst hc1;have hr0:r=[]:=List.eq_nil_of_length_eq_zero Hm.o;have HEG:Hid (t1++qAr false d.rows=((t'++[32,43])++(32::qAm p.n++[58]))++prL false []++qAr true (d.rows.drop (j+1))):=hZ (by rw[HEF.o,hr0]);clear hr0
        go_wp2_with fail
        refine(qBz B b _ _ [] wC HWC.o.s (TSl.nil _ _ (by omega)) (by simp) rfl rfl (by have:=qAi HOp.o;simp[prL];omega) HWC.o.z HWC.o.p hT).mono ?_;rintro e wD ⟨rfl,hs,hk⟩;have HWD:=hZ (HWC.o.call hg hT hs hk);clear hs hk
        go_wp2_with fail
        exact⟨⟨j+1,_,by omega,by go_num,HEG,HWD⟩,by simp[intOf];omega⟩
       ·have hc2:1<c9:=by omega
        have HTl:=hZ (HTl.o (some ⟨gp,op+3,none⟩) (fun _=>rfl));rw[show m+1-1=m by omega]at HTl;have HEG:Hid (t1++qAr false d.rows=((t'++[32,43])++(32::qAm p.n++[58]))++prL false r++qAr true (d.rows.drop (j+1))):=HEF;have HPr9:Hid (qAD 68 wC (.slice (some ⟨gp,op+3,none⟩) m (c9-1)) r):=hZ (qAD.kp HTl.o HKC.o (by decide));have HCq:=hZ (qBz B b ((t'++[32,43])++(32::qAm p.n++[58])) _ r wC HWC.o.s HPr9.o (by have:=Hm.o;omega) HOr.o HNr.o (by have:=congrArg List.length HEG.o;simp only[List.length_append]at this ⊢;have:=HPt2.o;omega) HWC.o.z HWC.o.p hT)
        go_wp2_with fail
        refine HCq.o.mono ?_;rintro e wD ⟨rfl,hs,hk⟩;have HWD:=hZ (HWC.o.call hg hT hs hk);clear hs hk HCq
        go_wp2_with fail
        exact⟨⟨j+1,_,by omega,by go_num,HEG,HWD⟩,by simp[intOf];omega⟩
      ·have hj1:¬(0:Int)<(j:Int):=by omega
       have HEF:Hid (t1++qAr false d.rows=t'++(32::qAm p.n++[58])++prL false r++qAr true (d.rows.drop (j+1))):=hZ (by rw[HEE.o,if_neg hj0];simp);have HKA:Hid (KpX PX wr wr):=hZ (KpX.refl _ _);clear HEE;have hpz:=qAD.nth (HPR.o.kp HKA.o (by decide)) 0 (by simp);obtain⟨gq,oq,cq,hv,y0, -,-⟩:=hpz;injection hv with hv hqa hqb;injection hv with hv;injection hv with e1 e2;subst e1 e2;clear hqa hqb;have y0:wr.cell? ⟨gp,op,none⟩=some (.int .i64 p.n):=by simpa using y0
       have HCi:=hZ (qAM p.n wr HOp.o HW.o.p)
       go_wp2_with fail
       clear q3;refine HCi.o.mono ?_;rintro e wB ⟨rfl,hB⟩;have HWB:=hZ (HW.o.below hg hT hB);have HKB:=hZ (HKA.o.trans (KpX.of_below (X:=PX) hB));obtain⟨wa,hwa⟩:=eX (wB.alloc (.cells #[.string ⟨(qAm p.n).toArray⟩,.string ⟨#[58]⟩] 9));have HPW:Hid (qAY true [qAm p.n,[58]]=32::qAm p.n++[58]):=hZ (by rw[qAe (qAx _)];simp[qAY]);have HCp:=hZ (qCq B b g o w wB wa d y t' true [qAm p.n,[58]] 2 HWB.o hg hT rfl (by omega) (by rw[HPW.o];have:=qAi HOp.o;simp;omega) hwa);clear hB HCi y0 HW HKA
       go_wp2_with fail
       refine HCp.o.mono ?_;rintro e wC ⟨rfl,hC,hKC⟩;rw[HPW.o]at hC;have HWC:=hZ hC;have HKC:=hZ (HKB.o.trans hKC);clear hC hKC HCp HPW HWB HKB hwa;by_cases hc1:c9=1
       ·obtain rfl:m=0:=by omega
        subst hc1;have hr0:r=[]:=List.eq_nil_of_length_eq_zero Hm.o;have HEG:Hid (t1++qAr false d.rows=(t'++(32::qAm p.n++[58]))++prL false []++qAr true (d.rows.drop (j+1))):=hZ (by rw[HEF.o,hr0]);clear hr0
        go_wp2_with fail
        refine(qBz B b _ _ [] wC HWC.o.s (TSl.nil _ _ (by omega)) (by simp) rfl rfl (by have:=qAi HOp.o;simp[prL];omega) HWC.o.z HWC.o.p hT).mono ?_;rintro e wD ⟨rfl,hs,hk⟩;have HWD:=hZ (HWC.o.call hg hT hs hk);clear hs hk
        go_wp2_with fail
        exact⟨⟨j+1,_,by omega,by go_num,HEG,HWD⟩,by simp[intOf];omega⟩
       ·have hc2:1<c9:=by omega
        have HTl:=hZ (HTl.o (some ⟨gp,op+3,none⟩) (fun _=>rfl));rw[show m+1-1=m by omega]at HTl;have HEG:Hid (t1++qAr false d.rows=(t'++(32::qAm p.n++[58]))++prL false r++qAr true (d.rows.drop (j+1))):=HEF;have HPr9:Hid (qAD 68 wC (.slice (some ⟨gp,op+3,none⟩) m (c9-1)) r):=hZ (qAD.kp HTl.o HKC.o (by decide));have HCq:=hZ (qBz B b (t'++(32::qAm p.n++[58])) _ r wC HWC.o.s HPr9.o (by have:=Hm.o;omega) HOr.o HNr.o (by have:=congrArg List.length HEG.o;simp only[List.length_append]at this ⊢;have:=HPt2.o;omega) HWC.o.z HWC.o.p hT)
        go_wp2_with fail
        refine HCq.o.mono ?_;rintro e wD ⟨rfl,hs,hk⟩;have HWD:=hZ (HWC.o.call hg hT hs hk);clear hs hk HCq
        go_wp2_with fail
        exact⟨⟨j+1,_,by omega,by go_num,HEG,HWD⟩,by simp[intOf];omega⟩
    ·have hn2:¬(j:Int)<(rn:Int):=by omega
     have H3:Hid (PWk B w wr b g o d y (t1++(qAf d).flatten) true):=hZ (by
      have h9:=HE.o;rw[List.drop_of_length_le (by have:=Hrn.o;omega)]at h9;rw[HP.o,h9];simpa[qAr]using HW.o)
     clear HE HW
     go_wp2_with fail
     go_meet
     case rel=>exact H3
  ·have HKd:Hid (d.kind=4):=hZ (by rw[HKn.o,hkk];rfl)
   have e0:((kn:Int)==0)=false:=by rw[hkk];decide
   have n0:(kn==0)=false:=by rw[hkk];decide
   have m0:¬kn=0:=by omega
   have e1:((kn:Int)==1)=false:=by rw[hkk];decide
   have n1:(kn==1)=false:=by rw[hkk];decide
   have m1:¬kn=1:=by omega
   have e2:((kn:Int)==2)=false:=by rw[hkk];decide
   have n2:(kn==2)=false:=by rw[hkk];decide
   have m2:¬kn=2:=by omega
   have e3:((kn:Int)==3)=false:=by rw[hkk];decide
   have n3:(kn==3)=false:=by rw[hkk];decide
   have m3:¬kn=3:=by omega
   have e4:((kn:Int)==4)=true:=by rw[hkk];decide
   have n4:(kn==4)=true:=by rw[hkk];decide
   clear hkk;have hro:=(qDv HS.o).2 HKd.o;have HP:Hid ((qAf d).flatten=qBa false d.brs):=hZ (by unfold qAf;rw[if_neg (by rw[HKd.o];decide),if_neg (by rw[HKd.o];decide),hro];simp[qAr]);have HPt2:Hid (t1.length+(qBa false d.brs).length<=62000100):=hZ (by have:=HPt.o;rw[HP.o]at this;omega);obtain⟨x1,x2,hyx, -,-⟩:=TSl.form HW.o.d.ls.x;obtain⟨xn,hxn⟩:=eX d.brs.length;have c16:w2.cell? ⟨g,o+16,none⟩=some (.slice x1 xn x2):=by have:=HW.o.d.row 16 _ rfl;rw[this,hyx,hxn]
   have hxm:xn<=10000:=by have:=HD.o.2.2.2.2.1;omega
   have Hxn:=hZ hxn;have Hyx:Hid (y.x=.slice x1 xn x2):=hZ (by rw[hyx,hxn]);clear hxn hyx hro
   go_wp2_with fail
   clear c16 c0
   go_loopw [75] (fun iv wr=>∃(k:Nat) (t':Bs),k<=xn/\iv=.int .i64 k/\Hid (t1++qBa false d.brs=t'++qBa (decide (0<k)) (d.brs.drop k))/\Hid (PWk B w wr b g o d y t' true)) (fun iv _=>xn-(intOf iv).toNat)
   case atStart=>exact⟨0,t1,by omega,rfl,hZ rfl,HW⟩
   case round=>
    clear HW;obtain⟨k,t',hk,rfl,HE,HW⟩:=hrel;by_cases hlt:k<xn
    ·have h1:k<d.brs.length:=by have:=Hxn.o;omega
     have hX:=HW.o.d.ls.x;rw[Hyx.o]at hX;obtain⟨gp,op,cp,hv,y0,y1⟩:=qCA.nth hX k h1;injection hv with hv hq1 hv2;subst hv hv2;have hok:=HBs.o _ (List.getElem_mem h1);have hE:=HE.o;rw[qEE _ k h1]at hE;obtain⟨p,hp⟩:=eX (d.brs[k]);rw[hp]at y0 y1 hok hE;have HOp:=hZ hok;have HEE:=hZ hE;have hbd:t'.length<=62000100:=by
      have h8:=congrArg List.length hE;have h9:=HPt2.o;simp only[List.length_append]at h8;omega
     obtain⟨bx,hbx⟩:=eX wr.heap.size;obtain⟨w5,hw5⟩:=eX (wr.alloc (.cells #[.int .i64 p.1,.int .i64 p.2] 76));have hB5:Below wr.heap.size wr w5:=by rw[<-hw5];exact qAa _ _
     have HX5:Hid (qAy w5 bx 76 [.int .i64 p.1,.int .i64 p.2]):=hZ (by rw[<-hw5,<-hbx];exact qAy.new _ _ _);have HW5:=hZ (HW.o.below hg hT hB5);have hn0:(0:Int)<=(k:Int):=by omega
     have hn1:(k:Int)<(xn:Int):=by omega
     clear hok hp hq1 h1 hE HE hX hB5 HW;by_cases hk0:0<k
     ·have hk1:(0:Int)<(k:Int):=by omega
      obtain⟨wp,hwp⟩:=eX (w5.alloc (.cells #[.string ⟨#[44]⟩] 9));have HPP:Hid (qAY true [[44]]=[44]):=hZ (by decide);have HCp:=hZ (qCq B b g o w w5 wp d y t' true [[44]] 1 HW5.o hg hT rfl (by omega) (by rw[HPP.o];simp;omega) hwp)
      go_wp2_with fail
      clear y0 y1 hw5 hbx;refine HCp.o.mono ?_;rintro e wA ⟨rfl,hA,hKA⟩;rw[HPP.o]at hA;have HWA:=hZ hA;have HXA:Hid (qAy wA bx 76 [.int .i64 p.1,.int .i64 p.2]):=hZ (hKA _ _ _ (by decide) HX5.o);have HEF:Hid (t1++qBa false d.brs=((t'++[44])++(32::qAm p.1++58::32::qAm p.2))++qBa true (d.brs.drop (k+1))):=hZ (by rw[HEE.o,if_pos hk0];simp);clear hA hKA HCp HPP HX5 HW5 hwp HEE;obtain⟨wd,hwd⟩:=eX wA.drew;have hBd:Below wA.heap.size wA wd:=by rw[<-hwd];exact qAc _
      have HWd:=hZ (HWA.o.below hg hT hBd);have HXd:=hZ (HXA.o.below hBd HXA.o.lt);have HC1:=hZ (qAM p.1 wd HOp.o.1 HWd.o.p);have x0:wA.cell? ⟨bx,0,none⟩=some (.int .i64 p.1):=HXA.o.cell 0;have x1:wA.cell? ⟨bx,1,none⟩=some (.int .i64 p.2):=HXA.o.cell 1;clear hBd HWA HXA
      go_wp2_with fail
      refine qAs [7,8] (fun W=>W.cell? ⟨bx,0,none⟩=some (.int .i64 p.1)/\W.cell? ⟨bx,1,none⟩=some (.int .i64 p.2)) (by kernel_rfl) (⟨x0,x1⟩) (fun hHeld=> ?_);rw[hwd]at hHeld ⊢;clear hwd x0 x1;refine pU 0 85 ?_;refine pU 1 86 ?_;refine qAb 2 87 (v:= ?_) rfl rfl (by kernel_rfl) (by kernel_rfl) (by kernel_rfl) (by kernel_rfl) (by kernel_rfl) (fun _ _ _ h=>h) (by rfl) ?_ (by assumption) ?_;rotate_left
      ·(intro w hSw;go_simp;first|done|with_reducible rfl)
      simp only[sX1,sX2,sX3];refine pU 4 89 ?_;refine qAb 5 90 (v:= ?_) rfl rfl (by kernel_rfl) (by kernel_rfl) (by kernel_rfl) (by kernel_rfl) (by kernel_rfl) (fun _ _ _ h=>h) (by rfl) ?_ (by assumption) ?_;rotate_left
      ·(intro w hSw;go_simp;first|done|with_reducible rfl)
      simp only[sX1,sX2,sX3];refine eU 3 fun K hK=> ?_;go_simp;refine HC1.o.mono ?_;rintro e w11 ⟨rfl,hB11⟩;have HW11:=hZ (HWd.o.below hg hT hB11);have HX11:=hZ (HXd.o.below hB11 HXd.o.lt);have HC2:=hZ (qAM p.2 w11 HOp.o.2 HW11.o.p);have h11S:w11.cell? ⟨bx,0,none⟩=some (.int .i64 p.1)/\w11.cell? ⟨bx,1,none⟩=some (.int .i64 p.2):=⟨HX11.o.cell 0,HX11.o.cell 1⟩;clear hB11 HC1 HWd HXd hHeld
      go_wp2_with fail
      refine hK.out _ _ (h11S) (fun hHeld=> ?_);clear hK K
      try simp only[Act.put,sX1,sX2,sX3]
      clear h11S;refine eU 6 fun K hK=> ?_;go_simp;refine HC2.o.mono ?_;rintro e w12 ⟨rfl,hB12⟩;have HW12:=hZ (HW11.o.below hg hT hB12);have HX12:=hZ (HX11.o.below hB12 HX11.o.lt);have h12S:w12.cell? ⟨bx,0,none⟩=some (.int .i64 p.1)/\w12.cell? ⟨bx,1,none⟩=some (.int .i64 p.2):=⟨HX12.o.cell 0,HX12.o.cell 1⟩;obtain⟨wa,hwa⟩:=eX (w12.alloc (.cells #[.string ⟨(qAm p.1).toArray⟩,.string ⟨#[58]⟩,.string ⟨(qAm p.2).toArray⟩] 9));have HPW:Hid (qAY true [qAm p.1,[58],qAm p.2]=32::qAm p.1++58::32::qAm p.2):=hZ (by rw[qAe (qAx _),qAY,qAe (qAx _)];simp[qAY]);have HCp:=hZ (qCq B b g o w w12 wa d y (t'++[44]) true [qAm p.1,[58],qAm p.2] 3 HW12.o hg hT rfl (by omega) (by rw[HPW.o];have:=qAi HOp.o.1;have:=qAi HOp.o.2;simp;omega) hwa);clear hB12 HC2 HW11 HX11 HX12 hHeld
      go_wp2_with fail
      refine hK.out _ _ (h12S) (fun hHeld=> ?_);clear hK K
      try simp only[Act.put,sX1,sX2,sX3]
      clear h12S;refine lU 7 fun K hK=> ?_;go_simp;refine hK.out _ _ ?_;clear hK K
      try simp only[Act.put,sX1,sX2,sX3]
      refine lU 8 fun K hK=> ?_;go_simp;clear hwa hHeld;refine HCp.o.mono ?_;rintro e w9 ⟨rfl,h9,-⟩;rw[HPW.o]at h9;have H9:=hZ h9;clear h9 HCp HW12 HPW
      go_wp2_with fail
      refine hK.out _ _ ?_;clear hK K
      try simp only[Act.put,sX1,sX2,sX3]
      refine dU ?_
      go_wp2_with fail
      exact⟨⟨k+1,_,by omega,by go_num,HEF,H9⟩,by simp[intOf];omega⟩
     ·have hk1:¬(0:Int)<(k:Int):=by omega
      have HEF:Hid (t1++qBa false d.brs=(t'++(32::qAm p.1++58::32::qAm p.2))++qBa true (d.brs.drop (k+1))):=hZ (by rw[HEE.o,if_neg hk0];simp);clear HEE;obtain⟨wd,hwd⟩:=eX w5.drew;have hBd:Below w5.heap.size w5 wd:=by rw[<-hwd];exact qAc _
      have HWd:=hZ (HW5.o.below hg hT hBd);have HXd:=hZ (HX5.o.below hBd HX5.o.lt);have HC1:=hZ (qAM p.1 wd HOp.o.1 HWd.o.p);have x0:w5.cell? ⟨bx,0,none⟩=some (.int .i64 p.1):=HX5.o.cell 0;have x1:w5.cell? ⟨bx,1,none⟩=some (.int .i64 p.2):=HX5.o.cell 1;clear hBd HW5 HX5
      go_wp2_with fail
      clear y0 y1 hw5 hbx;refine qAs [7,8] (fun W=>W.cell? ⟨bx,0,none⟩=some (.int .i64 p.1)/\W.cell? ⟨bx,1,none⟩=some (.int .i64 p.2)) (by kernel_rfl) (⟨x0,x1⟩) (fun hHeld=> ?_);rw[hwd]at hHeld ⊢;clear hwd x0 x1;refine pU 0 85 ?_;refine pU 1 86 ?_;refine qAb 2 87 (v:= ?_) rfl rfl (by kernel_rfl) (by kernel_rfl) (by kernel_rfl) (by kernel_rfl) (by kernel_rfl) (fun _ _ _ h=>h) (by rfl) ?_ (by assumption) ?_;rotate_left
      ·(intro w hSw;go_simp;first|done|with_reducible rfl)
      simp only[sX1,sX2,sX3];refine pU 4 89 ?_;refine qAb 5 90 (v:= ?_) rfl rfl (by kernel_rfl) (by kernel_rfl) (by kernel_rfl) (by kernel_rfl) (by kernel_rfl) (fun _ _ _ h=>h) (by rfl) ?_ (by assumption) ?_;rotate_left
      ·(intro w hSw;go_simp;first|done|with_reducible rfl)
      simp only[sX1,sX2,sX3];refine eU 3 fun K hK=> ?_;go_simp;refine HC1.o.mono ?_;rintro e w11 ⟨rfl,hB11⟩;have HW11:=hZ (HWd.o.below hg hT hB11);have HX11:=hZ (HXd.o.below hB11 HXd.o.lt);have HC2:=hZ (qAM p.2 w11 HOp.o.2 HW11.o.p);have h11S:w11.cell? ⟨bx,0,none⟩=some (.int .i64 p.1)/\w11.cell? ⟨bx,1,none⟩=some (.int .i64 p.2):=⟨HX11.o.cell 0,HX11.o.cell 1⟩;clear hB11 HC1 HWd HXd hHeld
      go_wp2_with fail
      refine hK.out _ _ (h11S) (fun hHeld=> ?_);clear hK K
      try simp only[Act.put,sX1,sX2,sX3]
      clear h11S;refine eU 6 fun K hK=> ?_;go_simp;refine HC2.o.mono ?_;rintro e w12 ⟨rfl,hB12⟩;have HW12:=hZ (HW11.o.below hg hT hB12);have HX12:=hZ (HX11.o.below hB12 HX11.o.lt);have h12S:w12.cell? ⟨bx,0,none⟩=some (.int .i64 p.1)/\w12.cell? ⟨bx,1,none⟩=some (.int .i64 p.2):=⟨HX12.o.cell 0,HX12.o.cell 1⟩;obtain⟨wa,hwa⟩:=eX (w12.alloc (.cells #[.string ⟨(qAm p.1).toArray⟩,.string ⟨#[58]⟩,.string ⟨(qAm p.2).toArray⟩] 9));have HPW:Hid (qAY true [qAm p.1,[58],qAm p.2]=32::qAm p.1++58::32::qAm p.2):=hZ (by rw[qAe (qAx _),qAY,qAe (qAx _)];simp[qAY]);have HCp:=hZ (qCq B b g o w w12 wa d y t' true [qAm p.1,[58],qAm p.2] 3 HW12.o hg hT rfl (by omega) (by rw[HPW.o];have:=qAi HOp.o.1;have:=qAi HOp.o.2;simp;omega) hwa);clear hB12 HC2 HW11 HX11 HX12 hHeld
      go_wp2_with fail
      refine hK.out _ _ (h12S) (fun hHeld=> ?_);clear hK K
      try simp only[Act.put,sX1,sX2,sX3]
      clear h12S;refine lU 7 fun K hK=> ?_;go_simp;refine hK.out _ _ ?_;clear hK K
      try simp only[Act.put,sX1,sX2,sX3]
      refine lU 8 fun K hK=> ?_;go_simp;clear hwa hHeld;refine HCp.o.mono ?_;rintro e w9 ⟨rfl,h9,-⟩;rw[HPW.o]at h9;have H9:=hZ h9;clear h9 HCp HW12 HPW
      go_wp2_with fail
      refine hK.out _ _ ?_;clear hK K
      try simp only[Act.put,sX1,sX2,sX3]
      refine dU ?_
      go_wp2_with fail
      exact⟨⟨k+1,_,by omega,by go_num,HEF,H9⟩,by simp[intOf];omega⟩
    ·have hn2:¬(k:Int)<(xn:Int):=by omega
     have H3:Hid (PWk B w wr b g o d y (t1++(qAf d).flatten) true):=hZ (by
      have h9:=HE.o;rw[List.drop_of_length_le (by have:=Hxn.o;omega)]at h9;rw[HP.o,h9];simpa[qBa]using HW.o)
     clear HE HW
     go_wp2_with fail
     go_meet
     case rel=>exact H3
 case rest=>
  clear HW c0;obtain⟨w3,hwn⟩:∃W,W=wc:=⟨_,rfl⟩;subst hwn;have HW:=hcut;clear hcut;obtain⟨t2,ht2⟩:=eX (t1++(qAf d).flatten);have hl2:t2.length<=62000100:=by rw[<-ht2];have:=HPt.o;simp only[List.length_append];omega
  rw[ht2]at HW;have HT2:=hZ ht2;obtain⟨wb,hwb⟩:=eX (w3.alloc (.cells #[.string ⟨#[59]⟩] 9));have HCp:=hZ (qBZ B b g o w w3 wb d y t2 true [[59]] 1 HW.o hg hT rfl (by omega) (by simp[qAY];omega) hwb);clear ht2
  go_wp2_with fail
  refine HCp.o.mono ?_;rintro e w4 ⟨rfl,h4⟩;have H4:Hid (PWk B w w4 b g o d y (t2++[59]) true):=hZ (by simpa[qAY]using h4);have HC4:=hZ (qFB B b (t2++[59]) true 10 w4 H4.o.s (by simp;omega) H4.o.z);clear h4 HCp HW hwb
  go_wp2_with fail
  refine HC4.o.mono ?_;rintro e w5 ⟨rfl,hs5,hk5'⟩;obtain⟨c6,f6⟩:=hs5.cell2;have hq:=hs5.line false;have h5:=H4.o.call hg hT hs5 hk5';have h6:=h5.call hg hT hq.1 hq.2;obtain⟨w6,hw6⟩:=eX (w5.setCell ⟨b,2,none⟩ (.bool false));rw[hw6]at h6;have H6:=hZ h6;clear hs5 hk5' hq h5 h6 HC4 H4
  go_wp2_with fail
  go_end0
  exact⟨rfl,by have:=H6.o;rw[<-HT2.o,<-HT1.o]at this;simpa using this⟩
theorem qH6(B b:Nat)(w:World)(hbk:w.heap[b]? =some (.cells #[.pointer none,.slice none 0 0,.bool false] 85 (0,0))):
 Calls Tryd.prog 32 #[.pointer (some ⟨b,0,none⟩)] w fun e w'=>e=.returned (.string ⟨#[]⟩)/\Below B w w':=by
 have hUS:∀W:World,(Builtin.unsafeString_ #[121,3] 9 #[.pointer none,.int .i64 0]).run Tryd.prog W=.ok (.string .empty) W:=fun W=>Lib.run_unsafeString_none W _ _ _ none;have c1:w.drew.cell? ⟨b,1,none⟩=some (.slice none 0 0):=by
  have:w.drew.heap[b]? =some (.cells #[.pointer none,.slice none 0 0,.bool false] 85 (0,0)):=hbk;rw[Lib.cell_of_heap this];rfl
 have hSD:(Builtin.unsafeSliceData_ #[81] 121 #[.slice none 0 0]).run Tryd.prog w.drew=.ok (.pointer none) w.drew:=rfl;clear hbk
 go_enter Tryd.func32,Tryd.ntmps32
 go_wp2
 go_region
 all_goals (go_wp2;go_ret;exact⟨rfl,Below.drew (Below.refl B w)⟩)
def qLr(l:List Dc):Prop:=∀d∈l,qFk d=0/\DL 10000 d/\(qBw d 0).length<=1000000
theorem qHa{l:List Dc}{k:Nat}(hk:k<l.length):qBe (l.take (k+1))=qBe (l.take k)++qBw l[k] 0:=by
 rw[List.take_succ_eq_append_getElem hk,qHb]
theorem qI5(l:List Dc)(k:Nat):(qBe (l.take k)).length<=(qBe l).length:=by
 have:qBe l=qBe (l.take k)++qBe (l.drop k):=by
  conv=>lhs;rw[<-List.take_append_drop k l]
  unfold qBe;rw[List.map_append,List.flatten_append]
 rw[this,List.length_append];omega
theorem qJd(v:Value)(l:List Dc)(w:World)(h:DsPar w v l)(hp:qLr l)(hl:l.length<=10000)(hK:qA2 w)(hT:qB7 w):
 Calls Tryd.prog 15 #[v] w fun e w'=>e=.returned (.tuple #[.string ⟨(qCX l).1.toArray⟩,.int .i64 (qCX l).2])/\Below w.heap.size w w':=by
 obtain⟨a,cap,rfl, -,-⟩:=TSl.form h;have hel:qJ0 l=0:=by
  have:∀l:List Dc,(∀d∈l,qFk d=0)->qJ0 l=0:=by
   intro l
   induction l with
   |nil=>intro _;rfl
   |cons d l ih=>intro h;rw[qJ0,if_pos (h d (by simp))];exact ih (fun x hx=>h x (by simp[hx]))
  exact this l (fun d hd=>(hp d hd).1)
 have HA:=hZ h;have HP:=hZ hp;have HK:=hZ hK;have HT:=hZ hT;have HE:=hZ hel;cases l with
 |nil=>
  have HR:Hid (qCX []=([],0)):=hZ rfl;rw[HR.o];clear h hp hK hT hel
  go_enter Tryd.func15,Tryd.ntmps15
  go_wp2_with fail
  go_loopw [10] (fun iv wr=>iv=.int .i64 0/\w=wr) (fun iv _=>0)
  case atStart=>exact⟨rfl,rfl⟩
  case round=>
   obtain⟨rfl,hw⟩:=hrel;subst hw;obtain⟨w1,hw1⟩:=eX (w.alloc (.cells #[.pointer none,.slice none 0 0,.bool false] 85));have hbk:w1.heap[w.heap.size]? =some (.cells #[.pointer none,.slice none 0 0,.bool false] 85 (0,0)):=by rw[<-hw1];exact heap_alloc_new w _
   have HB1:Hid (Below w.heap.size w w1):=hZ (by rw[<-hw1];exact qAa _ _);have HC:=hZ (qH6 w.heap.size w.heap.size w1 hbk);clear hbk
   go_wp2_with fail
   go_loopw [25] (fun iv wr=>iv=.int .i64 0/\w1=wr) (fun iv _=>0)
   case atStart=>exact⟨rfl,rfl⟩
   case round=>
    obtain⟨rfl,hw⟩:=hrel;subst hw;clear hw1
    go_wp2_with fail
    refine HC.o.mono ?_;rintro e w2 ⟨rfl,hB2⟩;have HB2:=hZ (HB1.o.trans hB2);clear hB2 HC
    go_wp2_with fail
    refine bodyPost_ret (v:=.tuple #[.string ⟨#[]⟩,.int .i64 0]) (by simp[results,Tryd.results15,go_sem]) rfl ?_;exact⟨rfl,HB2.o⟩
 |cons d0 l0=>
  have hne:qBe (d0::l0)≠[]:=by
   intro e;have:=congrArg List.length e;simp[qBe,qBw]at this
  obtain⟨l,hll⟩:=eX (d0::l0);rw[hll]at HA HP HE hl hne;rw[hll];have hnz:0<l.length:=by rw[<-hll];simp
  clear h hp hK hT hel hll;have HNe:=hZ hne;obtain⟨n,hn⟩:=eX l.length;rw[hn]at hl hnz;rw[hn];have Hn:=hZ hn;clear hn hne
  go_enter Tryd.func15,Tryd.ntmps15
  go_wp2_with fail
  go_loopw [10] (fun iv wr=>∃k:Nat,k<=n/\iv=.int .i64 k/\Hid (Below w.heap.size w wr)) (fun iv _=>n-(intOf iv).toNat)
  case atStart=>exact⟨0,by omega,rfl,hZ (Below.refl _ _)⟩
  case round=>
   obtain⟨k,hk,rfl,HB⟩:=hrel;by_cases hlt:k<n
   ·have h1:k<l.length:=by have:=Hn.o;omega
    obtain⟨g,o1,cp,cs,hv,hd0,hcl,hrow⟩:=qCQ.nth (HA.o.kp (KpX.of_below (X:=[]) HB.o) (by simp) (by simp) (by simp) (by simp)) k h1;injection hv with hv hq1 hv2;subst hv hv2;obtain⟨hp1,hp2,-⟩:=HP.o _ (List.getElem_mem h1);obtain⟨d,hd⟩:=eX (l[k]);rw[hd]at hd0 hp1 hp2;obtain⟨y,hcs,hy⟩:=hd0;subst hcs;have HC:=hZ (qJK d y wr g (o1+k*17) ⟨hrow,hy⟩ hp1 hp2 (HK.o.below HB.o HK.o.lt));have hm0:(0:Int)<=(k:Int):=by omega
    have hm1:(k:Int)<(n:Int):=by omega
    clear hrow hy hp1 hp2 hd hq1 hcl h1
    go_wp2_with fail
    refine HC.o.mono ?_;rintro e w2 ⟨rfl,hB2⟩;have HB2:=hZ (HB.o.trans (hB2.mono HB.o.size));clear hB2 HC
    go_wp2_with fail
    exact⟨⟨k+1,by omega,by go_num,HB2⟩,by simp[intOf];omega⟩
   ·have hm1:¬(k:Int)<(n:Int):=by omega
    obtain⟨B,hBe⟩:=eX wr.heap.size;obtain⟨w1,hw1⟩:=eX (wr.alloc (.cells #[.pointer none,.slice none 0 0,.bool false] 85));have hbk:w1.heap[B]? =some (.cells #[.pointer none,.slice none 0 0,.bool false] 85 (0,0)):=by rw[<-hw1,<-hBe];exact heap_alloc_new wr _
    have hB1:Below wr.heap.size wr w1:=by rw[<-hw1];exact qAa _ _
    have HB1:=hZ (HB.o.trans (hB1.mono HB.o.size));have HS1:Hid (PSt B w1 B (qBe (l.take 0)) false):=hZ (.inl ⟨Nat.le_refl _,_,hbk,World.ownsRow_nil _ _ _ _⟩);have HZ:Hid (w.heap.size<=B/\B<=w1.heap.size):=hZ ⟨by rw[<-hBe];exact HB.o.size,by have:=qAq hbk;omega⟩;clear hbk hB1 HB
    go_wp2_with fail
    clear hw1 hBe
    go_loopw [25] (fun iv wr=>∃k:Nat,k<=n/\iv=.int .i64 k/\Hid (PSt B wr B (qBe (l.take k)) false)/\Hid (PKp B w1 wr)/\Hid ((qBe (l.take k)).length<=8192)) (fun iv _=>n-(intOf iv).toNat)
    case atStart=>exact⟨0,by omega,rfl,HS1,hZ (PKp.refl _ _),hZ (by simp[qBe])⟩
    case round=>
     clear HS1;obtain⟨k2,hk2,rfl,HS,HKp,HLt⟩:=hrel;have HBw:Hid (Below w.heap.size w wr):=hZ (HB1.o.trans (HKp.o.1.mono HZ.o.1));by_cases hlt2:k2<n
     ·have h1:k2<l.length:=by have:=Hn.o;omega
      have hAw:=HA.o.kp (KpX.of_below (X:=[]) HBw.o) (by simp) (by simp) (by simp) (by simp);obtain⟨g,o1,cp,cs,hv,hd0,hcl,hrow⟩:=qCQ.nth hAw k2 h1;obtain⟨g',o1',cp',cs',hv',hd0', -,hrow'⟩:=qCQ.nth HA.o k2 h1;injection hv with hv hq1 hv2;injection hv' with hv' hq2 hv2';subst hv hv2;injection hv' with hv';injection hv' with e1 e2;subst e1 e2;have hgl:g<B:=Nat.lt_of_lt_of_le (by
       obtain⟨y',hy',-⟩:=hd0';subst hy';exact World.block_lt_of_cell? w ⟨g,o1+k2*17+0,none⟩ (hrow' 0 _ rfl)) HZ.o.1
      obtain⟨hp1,hp2,hp3⟩:=HP.o _ (List.getElem_mem h1);have hT2:=qHa h1;obtain⟨d,hd⟩:=eX (l[k2]);rw[hd]at hd0 hp1 hp2 hp3 hT2;obtain⟨y,hcs,hy⟩:=hd0;subst hcs;have hTB:1<B:=Nat.lt_of_lt_of_le HT.o.lt HZ.o.1;have HC:=hZ (qHn B B g (o1+k2*17) d y (qBe (l.take k2)) wr ⟨HS.o,PKp.refl _ _,⟨hrow,hy⟩,HT.o.below HBw.o HT.o.lt,Nat.le_trans HZ.o.2 HKp.o.1.size⟩ hgl hTB hp1 hp2 hp3 (by have:=HLt.o;omega));have HT2:=hZ hT2;have hm2:(0:Int)<=(k2:Int):=by omega
      have hm3:(k2:Int)<(n:Int):=by omega
      clear hrow hrow' hy hp1 hp2 hp3 hd hd0' hq1 hq2 hv2' hcl hT2 hAw hgl hTB
      go_wp2_with fail
      refine HC.o.mono ?_;rintro e w2 ⟨rfl,hw⟩;rw[<-HT2.o]at hw;have HS2:=hZ hw.s;have HK2:=hZ (HKp.o.trans hw.k);have HL2:=hZ (qJh B B (qBe (l.take (k2+1))) false w2 hw.s);clear hw HC HS HKp HLt HT2 HBw;obtain⟨tl,htl⟩:=eX ((qBe (l.take (k2+1))).length);rw[htl]at HL2;have Htl:=hZ htl;clear htl
      go_wp2_with fail
      refine HL2.o.mono ?_;rintro e w3 ⟨rfl,hw3⟩;subst hw3;clear HL2;by_cases hbig:8192<tl
      ·have hb1:(8192:Int)<(tl:Int):=by omega
       have HR:Hid (qCX l=([],4)):=hZ (by
        unfold qCX;rw[if_pos HE.o,if_pos];have:=qI5 l (k2+1);have:=Htl.o;omega)
       have HF:=hZ (HB1.o.trans (HK2.o.1.mono HZ.o.1))
       go_wp2_with fail
       refine bodyPost_ret (v:=.tuple #[.string ⟨#[]⟩,.int .i64 4]) (by simp[results,Tryd.results15,go_sem]) rfl ?_;exact⟨by rw[HR.o],HF.o⟩
      ·have hb1:¬(8192:Int)<(tl:Int):=by omega
       have HL3:Hid ((qBe (l.take (k2+1))).length<=8192):=hZ (by have:=Htl.o;omega)
       go_wp2_with fail
       exact⟨⟨k2+1,by omega,by go_num,HS2,HK2,HL3⟩,by simp[intOf];omega⟩
     ·have hm3:¬(k2:Int)<(n:Int):=by omega
      have htk:l.take k2=l:=List.take_of_length_le (by have:=Hn.o;omega);have hS:=HS.o;have hLt:=HLt.o;rw[htk]at hS hLt;have HC:=hZ (qH7 B B (qBe l) false wr hS HNe.o);have HR:Hid (qCX l=(qBe l,0)):=hZ (by
       unfold qCX;rw[if_pos HE.o,if_neg (by omega)])
      clear hS hLt htk HS HLt
      go_wp2_with fail
      refine HC.o.mono ?_;rintro e w2 ⟨rfl,hB2⟩;have HF:=hZ (HBw.o.trans (hB2.mono HZ.o.1));clear hB2 HC
      go_wp2_with fail
      refine bodyPost_ret (v:=.tuple #[.string ⟨(qBe l).toArray⟩,.int .i64 0]) (by simp[results,Tryd.results15,go_sem]) rfl ?_;exact⟨by rw[HR.o],HF.o⟩
def lv1:Bs:=[114,117,108,101,32,115,109,101,108,116,32,116,105,109,101,32,53,32,116,97,107,101,32,50,32,111,114,101,44,32,49,32,99,111,97,108,32,103,105,118,101,32,49,32,105,114,111,110,59]
def lv2:Bs:=[105,116,101,109,32,97,32,119,101,97,114,32,51,32,119,101,97,114,32,52,59]
def lv3:Bs:=[108,111,111,116,32,108,32,51,58,50,32,120,44,49,32,121,43,32,55,32,58,32,59]
def lv4:Bs:=[108,111,111,116,32,108,32,51,58,32,50,32,120,44,32,49,32,121,32,43,32,55,58,59,10]
def onE(x:Except (Nat×Int) (List Dc))(f:List Dc->Bool)(g:Nat×Int->Bool):Bool:=match x with|.ok l=>f l|.error e=>g e
def qLq:List Dc->Bool
 |[d]=>d.kind==1 && d.time==5 && (match d.take with|[p,_]=>p.at_==25|_=>false)
 |_=>false
def qLp:List Dc->Bool
 |[d]=>qFk d==0 && qBw d 0==lv4
 |_=>false
theorem qLe:onE (qAt lv1) qLq (fun _=>false)=true:=by decide +kernel
theorem qLd:onE (qAt lv2) (fun _=>false) (fun e=>e==(14,2))=true:=by decide +kernel
theorem qLc:onE (qAt lv3) qLp (fun _=>false)=true:=by decide +kernel
theorem qJx:∃d p q,qAt lv1=.ok [d]/\d.kind=1/\d.time=5/\d.take=[p,q]/\p.at_=25:=by
 have h:=qLe;unfold onE at h
 split at h
 ·next l e=>
  match l,h with
  |[d],h=>
   simp only[qLq,Bool.and_eq_true,beq_iff_eq]at h;obtain⟨⟨h1,h2⟩,h3⟩:=h;cases ht:d.take with
   |nil=>rw[ht]at h3;cases h3
   |cons p r=>
    cases r with
    |nil=>rw[ht]at h3;cases h3
    |cons q r=>
     cases r with
     |nil=>rw[ht]at h3;exact⟨d,p,q,e,h1,h2,ht,by simpa using h3⟩
     |cons _ _=>rw[ht]at h3;cases h3
 ·cases h
theorem qJw:qAt lv2=.error (14,2):=by
 have h:=qLd;unfold onE at h
 split at h
 ·cases h
 ·next e he=>rw[he];simpa using h
theorem qJv:∃d,qAt lv3=.ok [d]/\qFk d=0/\qBw d 0=lv4:=by
 have h:=qLc;unfold onE at h
 split at h
 ·next l e=>
  match l,h with
  |[d],h=>
   simp only[qLp,Bool.and_eq_true,beq_iff_eq]at h;exact⟨d,e,h.1,h.2⟩
 ·cases h
theorem qCQ.below{e et dt:TypeId}{w w':World}{v:Value}{l:List Dc}(h:qCQ e et dt w v l)(hb:Below w.heap.size w w'):qCQ e et dt w' v l:=h.kp (KpX.of_below (X:=[]) hb) (by simp) (by simp) (by simp) (by simp)
theorem qCQ.none{e et dt:TypeId}(w:World):qCQ e et dt w (.slice none 0 0) []:=TSl.nil _ _ (by omega)
theorem qIq(w:World)(hK:qA2 w)(hT:qB7 w):
 Calls Tryd.prog 11 #[] w fun e w'=>e=.returned (.bool true)/\Below w.heap.size w w':=by
 obtain⟨d1,p1,q1,hx1,hk1,ht1,hl1,ha1⟩:=qJx;obtain⟨d3,hx3,he3,hl3⟩:=qJv;have HX1:Hid (qAt (⟨#[114,117,108,101,32,115,109,101,108,116,32,116,105,109,101,32,53,32,116,97,107,101,32,50,32,111,114,101,44,32,49,32,99,111,97,108,32,103,105,118,101,32,49,32,105,114,111,110,59]⟩:ByteArray).data.toList=.ok [d1]):=hZ hx1;have HX2:Hid (qAt (⟨#[105,116,101,109,32,97,32,119,101,97,114,32,51,32,119,101,97,114,32,52,59]⟩:ByteArray).data.toList=.error (14,2)):=hZ qJw;have HX3:Hid (qAt (⟨#[108,111,111,116,32,108,32,51,58,50,32,120,44,49,32,121,43,32,55,32,58,32,59]⟩:ByteArray).data.toList=.ok [d3]):=hZ hx3;have HD3:Hid (qLr [d3]):=hZ (fun d hd=>by
  rw[List.mem_singleton.1 hd];refine⟨he3,(qCY hx3 d3 (by simp)).mono (by omega),?_⟩;rw[hl3];decide)
 have HP3:Hid (qCX [d3]=(lv4,0)):=hZ (by
  have ht:qBe [d3]=lv4:=by simp[qBe,hl3]
  have he:qJ0 [d3]=0:=by rw[qJ0,if_pos he3];rfl
  unfold qCX;rw[if_pos he,ht,if_neg (by decide)])
 have HF1:Hid (d1.kind=1/\d1.time=5/\d1.take=[p1,q1]/\p1.at_=25):=hZ ⟨hk1,ht1,hl1,ha1⟩;have HK:=hZ hK;have HT:=hZ hT;have HC1:=hZ (qCZ ⟨#[114,117,108,101,32,115,109,101,108,116,32,116,105,109,101,32,53,32,116,97,107,101,32,50,32,111,114,101,44,32,49,32,99,111,97,108,32,103,105,118,101,32,49,32,105,114,111,110,59]⟩ w (by decide) hK);clear hx1 hk1 ht1 hl1 ha1 hx3 he3 hl3 hK hT
 go_enter Tryd.func11,Tryd.ntmps11
 go_wp2_with fail
 refine HC1.o.mono ?_;rintro e w1 ⟨hB1,⟨ds,v,hx,hl,rfl,hv⟩|⟨k,er,hx,rfl,her⟩⟩;rotate_left
 ·rw[HX1.o]at hx;cases hx
 obtain rfl:[d1]=ds:=by rw[HX1.o]at hx;injection hx
 have HV1:=hZ hv;have HB1:=hZ hB1;obtain⟨g,o,cp,cs,rfl,hd0,hcl,hrow⟩:=qCQ.nth hv 0 (by simp);have HD0:=hZ hd0;have HRow:=hZ hrow;simp only[List.length_cons,List.length_nil,Nat.zero_add];have HC2:=hZ (qCZ ⟨#[105,116,101,109,32,97,32,119,101,97,114,32,51,32,119,101,97,114,32,52,59]⟩ w1 (by decide) (HK.o.below HB1.o HK.o.lt));clear hx hl hv hB1 hd0 hcl hrow HC1
 go_wp2_with fail
 refine HC2.o.mono ?_;rintro e w2 ⟨hB2,⟨ds,v,hx,hl,rfl,hv⟩|⟨k,er,hx,rfl,her⟩⟩
 ·rw[HX2.o]at hx;cases hx
 obtain⟨rfl,rfl⟩:14=k/\2=er:=by
  rw[HX2.o]at hx;injection hx with hx;injection hx with e1 e2;exact⟨e1,e2⟩
 have HB2:=hZ (HB1.o.trans (hB2.mono HB1.o.size));have HE2:=hZ hB2;have HC3:=hZ (qCZ ⟨#[108,111,111,116,32,108,32,51,58,50,32,120,44,49,32,121,43,32,55,32,58,32,59]⟩ w2 (by decide) (HK.o.below HB2.o HK.o.lt));clear hx hB2 HC2 her
 go_wp2_with fail
 refine HC3.o.mono ?_;rintro e w3 ⟨hB3,⟨ds,v,hx,hl,rfl,hv⟩|⟨k,er,hx,rfl,her⟩⟩;rotate_left
 ·rw[HX3.o]at hx;cases hx
 obtain rfl:[d3]=ds:=by rw[HX3.o]at hx;injection hx
 have HB3:=hZ (HB2.o.trans (hB3.mono HB2.o.size));have HE3:=hZ (HE2.o.trans (hB3.mono HE2.o.size));have HC4:=hZ (qJd v [d3] w3 hv HD3.o (by simp) (HK.o.below HB3.o HK.o.lt) (HT.o.below HB3.o HT.o.lt));rw[HP3.o]at HC4;unfold lv4 at HC4;obtain⟨a3,c3,rfl, -,-⟩:=TSl.form hv;simp only[List.length_cons,List.length_nil,Nat.zero_add]at HC4 ⊢;clear hx hl hv hB3 HC3
 go_wp2_with fail
 refine HC4.o.mono ?_;rintro e w4 ⟨rfl,hB4⟩;have HB4:=hZ (HB3.o.trans (hB4.mono HB3.o.size));have hE4:=HE3.o.trans (hB4.mono HE3.o.size);have hgl:g<w1.heap.size:=by
  obtain⟨y,hy,-⟩:=HD0.o;have hr:=HRow.o;rw[hy]at hr;exact World.block_lt_of_cell? w1 ⟨g,o+0*17+0,none⟩ (hr 0 _ rfl)
 obtain⟨y,hy,hls⟩:=HD0.o;have hr:qCP w1 g (o+0*17) (dcC d1 y):=by have:=HRow.o;rw[hy]at this;exact this
 have hr4:∀j u,(dcC d1 y)[j]? =some u->w4.cell? ⟨g,o+j,none⟩=some u:=fun j u hj=>(hE4.cell (p:=⟨g,o+j,none⟩) hgl).trans (by have:=hr j u hj;simpa using this);have hls4:=hls.kp (KpX.of_below (X:=[]) hE4) (by simp) (by simp) (by simp);obtain⟨t1,t2,hyt, -,-⟩:=TSl.form hls4.t;have c0:w4.cell? ⟨g,o,none⟩=some (.int .i64 1):=by have:=hr4 0 _ rfl;rw[<-HF1.o.1];exact this
 have c9:w4.cell? ⟨g,o+9,none⟩=some (.int .i64 5):=by have:=hr4 9 _ rfl;rw[<-HF1.o.2.1];exact this
 have htl:d1.take.length=2:=by rw[HF1.o.2.2.1];rfl
 have hT4:qAD 68 w4 y.t d1.take:=hls4.t;rw[HF1.o.2.2.1]at hT4;obtain⟨gp,op,cpp,hyt2,z0,z1,z2a⟩:=qAD.nth hT4 0 (by simp);have c12:w4.cell? ⟨g,o+12,none⟩=some (.slice (some ⟨gp,op,none⟩) 2 cpp):=by have:=hr4 12 _ rfl;rw[this,hyt2];rfl
 have z2:w4.cell? ⟨gp,op+2,none⟩=some (.int .i64 25):=by have:=z2a;simp only[Nat.zero_mul,Nat.add_zero]at this;rw[<-HF1.o.2.2.2];exact this
 have HF:=hZ HB4.o;clear hB4 hE4 hgl hy hls hr hr4 hls4 hyt htl hT4 hyt2 z0 z1 z2a HD0 HRow HB4 HC4 HE3 HE2 HV1
 go_wp2_with fail
 go_ret;exact⟨rfl,HF.o⟩
theorem qEL(l:List (Dc×Nat))(h:∀x∈l,Gd x.1)(hl:l.length<=20):∃ds,qAt (qAZ l)=.ok ds/\ds.map Dc.st=l.map (fun x=>x.1.st):=by
 have:=qCT l h;exact qHp l (fun x hx=>(h x hx).err) (by omega)
theorem qJS{l m:List Dc}(e:m.map Dc.st=l.map Dc.st):m.length=l.length:=by simpa using congrArg List.length e
theorem qK5{l m:List Dc}(e:l.map Dc.st=m.map Dc.st)(j:Nat)(h1:j<l.length)(h2:j<m.length):l[j].st=m[j].st:=by
 have h3:(l.map Dc.st)[j]? =(m.map Dc.st)[j]? :=by rw[e]
 simpa[List.getElem?_map,List.getElem?_eq_getElem h1,List.getElem?_eq_getElem h2]using h3
theorem qDj(s:ByteArray)(ds:List Dc)(w:World)(hs:s.size<=100000)(hx:qAt s.data.toList=.ok ds)(hK:qA2 w):
 Calls Tryd.prog 18 #[.string s] w fun e w'=>(∃a c,e=.returned (.tuple #[.slice a ds.length c,.int .i64 0,.int .i64 0])/\DsPar w' (.slice a ds.length c) ds/\ds.length<=100000)/\Below w.heap.size w w':=by
 refine(qCZ s w hs hK).mono ?_;rintro e w1 ⟨hB1,⟨ds',v,hx',hl,rfl,hv⟩|⟨k,er,hx',rfl,her⟩⟩
 ·obtain rfl:ds=ds':=by rw[hx]at hx';injection hx'
  obtain⟨a,cp,rfl, -,-⟩:=TSl.form hv;exact⟨⟨a,cp,rfl,hv,by omega⟩,hB1⟩
 ·rw[hx]at hx';cases hx'
theorem qHI(v:Value)(l:List Dc)(w:World)(h:DsPar w v l)(hl:l.length<=100000)(hD:∀d∈l,DL 8192 d):
 Calls Tryd.prog 21 #[v] w fun e w'=>(∃a c,e=.returned (.slice a l.length c)/\DsRef w' (.slice a l.length c) l)/\Below w.heap.size w w':=by
 refine(qHJ v l w h (by omega) (fun d hd=>(hD d hd).mono (by omega))).mono ?_;rintro e w1 ⟨⟨u,rfl,hu⟩,hB⟩;obtain⟨a,c,rfl, -,-⟩:=TSl.form hu;exact⟨⟨a,c,rfl,hu⟩,hB⟩
theorem qHY(va vb:Value)(l m:List Dc)(w:World)(ha:DsRef w va l)(hb:DsRef w vb m)(he:l.map Dc.st=m.map Dc.st)(hl:l.length<=100000)(hD:∀d∈l,DL 8192 d):
 Calls Tryd.prog 20 #[va,vb,.bool false] w fun e w'=>e=.returned (.bool true)/\Below w.heap.size w w':=
 qI7 false va vb l m w ha hb (qJS he).symm (fun j h1 h2=>⟨qK5 he j h1 h2,nofun⟩) (by omega) (fun d hd=>(hD d hd).mono (by omega))
theorem qHC{w w':World}{v:Value}{zs:List Int}{len:Nat}(h:qA3 w v zs len)(hb:Below w.heap.size w w'):qA3 w' v zs len:=h.below (Nat.le_refl _) hb
theorem qDG.two{w:World}{v:Value}{l:List Tok}(h:qDG 55 w v l)(i:Nat)(hi:i<l.length):∃g off cap,v=.slice (some ⟨g,off,none⟩) l.length cap/\w.cell? ⟨g,off+i*4+1,none⟩=some (.string ⟨l[i].text.toArray⟩)/\w.cell? ⟨g,off+i*4+3,none⟩=some (.int .i64 l[i].at_):=by
 obtain⟨g,off,cap,es,hv,h1,h2,h3,rfl,h5,hc⟩:=TSl.at_ h i hi;exact⟨g,off,cap,hv,hc 1 (by omega),hc 3 (by omega)⟩
theorem qFo{P:Program}{W0 w:World}{ops:Array Oper}{rest:List Oper}{o:Oper}{a:Act}{Q:Exit->Act->World->Prop}{B B2 k bytes:Nat}{t e e2:TypeId}(hE:qDT P t e k bytes)(hgd:o.guard=none)(s x:Operand)
 (ho:o.op=.call { callee:=.builtin .append,args:=#[s,x],argTypes:=#[t,t] })
 (v:Value)(n:Nat)(xs:List Value)(hs:a.eval s=v)(v2:Value)(m:Nat)(ys:List Value)(hx:a.eval x=v2)(hown:w.ownsRow B e k v n xs)(hown2:w.ownsRow B2 e2 k v2 m ys)(h1:∀u∈ys,u.oneCell'=true)
 (hB:Below B W0 w)(hle:B<=w.heap.size)(hn:n+m<=1000000000)(hby:bytes<=1000)
 (h:∀v' w',Hid (w'.ownsRow B e k v' (n+m) (xs++ys))->Hid (Below B W0 w')->Hid (qAg (fun b=>v.ownBlock=some b) w w')->wpList P ops Q rest (a.put o.dst v') w'):wpList P ops Q (o::rest) a w:=by
 rcases hown2.2 with ⟨hv,hm⟩|⟨g,cap,cur,hv,hb,hg,hnn,hc,hss,hts⟩
 ·subst hm
  have hys:ys=[]:=List.eq_nil_of_length_eq_zero (by simpa using hown2.1);subst hys;obtain⟨ht,i,z,hi,hz,hsize,hbyt,hzs,hk⟩:=hE;refine wpList_append_own_none hgd s x t ho B e i k ht hi v n xs hs hown (by rw[hx,hv]) ?_;exact h v w (hZ (by simpa using hown)) (hZ hB) (hZ (qAg.refl _ _))
 ·refine qCF (W0:=W0) hE hgd s x ho v n xs hs ⟨g,0,none⟩ m cap ys (by rw[hx,hv]) hown2.1 (hown2.cells (g:=g) (by rw[hv];rfl)) h1 hown hB hle hn hby h
theorem qEq{P:Program}{w:World}{ops:Array Oper}{rest:List Oper}{o:Oper}{a:Act}{Q:Exit->Act->World->Prop}(hw:Region.wanted o (yielded ops a.tmps)=true)(h:wpList P ops Q ({ o with guard:=none }::rest) a w):wpList P ops Q (o::rest) a w:=by
 rw[wpList,if_pos hw];rw[wpList,if_pos (by rfl)]at h;exact h
end Go.Proofs.YtpmnbcdjoomgcaaDoor
