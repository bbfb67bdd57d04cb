/- The printer's flags and parts. -/
import Derived.Test.YtpmnbcdjoomgcaaDoorQAPPut
import Derived.Deep.CutRange
import Derived.Deep.CutBlock
set_option linter.unusedVariables false
set_option linter.unusedSimpArgs false
set_option maxHeartbeats 4000000
set_option maxRecDepth 100000
namespace Go.Proofs.YtpmnbcdjoomgcaaDoor
open Go.RowKit
def qFn(s:Bs):Prop:=s≠[59]/\s≠[44]/\s≠[58]
theorem qAe{s:Bs}(h:qFn s)(r:List Bs):qAY true (s::r)=32::s++qAY true r:=by
 rw[qAY];have h1:(s != [59])=true:=by simpa using h.1
 have h2:(s != [44])=true:=by simpa using h.2.1
 have h3:(s != [58])=true:=by simpa using h.2.2
 rw[h1,h2,h3];rfl
theorem qAx(n:Int):qFn (qAm n):=by
 have h:=(qIK n.toNat).1;unfold qFn qAm;refine⟨fun e=> ?_,fun e=> ?_,fun e=> ?_⟩<;>rw[e]at h
 ·have:=h 59 (by simp);unfold qGH at this;revert this;decide
 ·have:=h 44 (by simp);unfold qGH at this;revert this;decide
 ·have:=h 58 (by simp);unfold qGH at this;revert this;decide
theorem qDm{s:Bs}(h:qBt s=true):qFn s:=by
 have h1:qBt [59]=false:=by decide +kernel
 have h2:qBt [44]=false:=by decide +kernel
 have h3:qBt [58]=false:=by decide +kernel
 refine⟨fun e=> ?_,fun e=> ?_,fun e=> ?_⟩
 ·rw[e,h1]at h;cases h
 ·rw[e,h2]at h;cases h
 ·rw[e,h3]at h;cases h
theorem qJr{s:Bs}(h:qBt s=true):s.length<=8192:=by
 unfold qBt at h;by_cases hl:8192<s.length
 ·rw[if_pos hl]at h;cases h
 ·omega
theorem qCe.lit(w:World)(ts:List Bs)(n:Nat)(hn:ts.length=n)(hm:n<=1000):qCe (w.alloc (.cells (ts.map (fun s=>Value.string ⟨s.toArray⟩)).toArray 9)) (.slice (some ⟨w.heap.size,0,none⟩) n n) ts:=by
 subst hn;refine⟨_,_,rfl,Nat.le_refl _,by omega,fun _=>⟨w.heap.size,0,_,rfl,heap_alloc_new w _,fun j hj=>⟨_,rfl,rfl,fun i hi=> ?_⟩⟩⟩;have:i=0:=by omega
 subst this;simp[hj]
theorem qB7.pkp{B:Nat}{w w':World}(h:qB7 w)(hB:1<B)(hk:PKp B w w'):qB7 w':=h.below hk.1 hB
theorem qCv(B b:Nat)(t word:Bs)(n:Int)(w:World)(h:PSt B w b t true)(hw:qFn word)(hwl:word.length<=100)(hn:qAj n=true)(hlen:t.length<=80000000)(hBw:B<=w.heap.size)(hT:qB7 w):
 Calls Tryd.prog 98 #[.pointer (some ⟨b,0,none⟩),.string ⟨word.toArray⟩,.int .i64 n] w fun e w'=>e=.returned (.tuple #[])/\PSt B w' b (t++qAz word n) true/\PKp B w w':=by
 by_cases h0:n=0
 ·subst h0
  have H:Hid (PSt B w b (t++qAz word 0) true):=hZ (by simpa[qAz]using h);clear h hn
  go_enter Tryd.func98,Tryd.ntmps98
  go_wp2_with fail
  go_end0
  exact⟨rfl,H.o,PKp.refl _ _⟩
 ·have H:=hZ h
  have HC:=hZ (qAM n w hn hT);have e1:(n==0)=false:=by simpa using h0
  have e2:(n != 0)=true:=by simpa using h0
  have hnl:=qAi hn;have HP:Hid (t++qAz word n=t++qAY true [word,qAm n]):=hZ (by rw[qAe hw,qAe (qAx n),qAz,if_neg h0];simp[qAY]);have hpl:(qAY true [word,qAm n]).length<=200:=by rw[qAe hw,qAe (qAx n)];simp[qAY];omega
  clear h hn hT hw
  go_enter Tryd.func98,Tryd.ntmps98
  go_wp2_with fail
  refine HC.o.mono ?_;rintro e w1 ⟨rfl,hB1⟩;obtain⟨w2,hw2⟩:=eX (w1.alloc (.cells #[.string ⟨word.toArray⟩,.string ⟨(qAm n).toArray⟩] 9));have hst:qCe w2 (.slice (some ⟨w1.heap.size,0,none⟩) 2 2) [word,qAm n]:=by rw[<-hw2];exact qCe.lit w1 [word,qAm n] 2 rfl (by omega)
  have hB2:Below w.heap.size w w2:=hB1.trans ((by rw[<-hw2];exact qAa _ _:Below w1.heap.size w1 w2).mono hB1.size);have HK2:=hZ (PKp.behind hBw hB2);have HC2:=hZ (qCI B b t true _ _ w2 (H.o.below hB2) hst (by omega) (by simp) (Nat.le_trans hBw hB2.size));clear hB1 hB2 hst HC
  go_wp2_with fail
  refine HC2.o.mono ?_;rintro e w3 ⟨rfl,hS,hK⟩;have HS:=hZ hS;have HK:=hZ (HK2.o.trans hK);clear hS hK HC2
  go_wp2_with fail
  go_end0
  exact⟨rfl,by rw[HP.o];exact HS.o,HK.o⟩
theorem qJg(l:List Pr)(k:Nat)(hk:k<l.length):prL (decide (0<k)) (l.drop k)=(if 0<k then [44]else [])++32::qAm l[k].n++32::l[k].name++prL true (l.drop (k+1)):=by
 rw[List.drop_eq_getElem_cons hk,prL];by_cases h:0<k<;>simp[h]
theorem qBz(B b:Nat)(t:Bs)(v:Value)(l:List Pr)(w:World)(h:PSt B w b t true)(hv:qAD 68 w v l)(hl:l.length<=10000)(hok:okL l=true)(hnm:qAJ l=true)(hlen:t.length+(prL false l).length<=80000000)(hBw:B<=w.heap.size)(hT:qB7 w)(hTB:1<B):
 Calls Tryd.prog 63 #[.pointer (some ⟨b,0,none⟩),v] w fun e w'=>e=.returned (.tuple #[])/\PSt B w' b (t++prL false l) true/\PKp B w w':=by
 obtain⟨a,cap,rfl, -,-⟩:=TSl.form hv;have H:=hZ h;have HV:=hZ hv;have HOk:=hZ hok;have HNm:=hZ hnm;have HLn:=hZ hlen;have HT:=hZ hT;obtain⟨n,hnn⟩:=eX l.length;have Hn:=hZ hnn;rw[hnn]at hl;rw[hnn];clear h hv hok hnm hlen hT hnn
 go_enter Tryd.func63,Tryd.ntmps63
 go_wp2_with fail
 go_loopw [8] (fun iv wr=>∃(k:Nat) (t':Bs),k<=n/\iv=.int .i64 k/\Hid (t++prL false l=t'++prL (decide (0<k)) (l.drop k))/\Hid (PSt B wr b t' true)/\Hid (PKp B w wr)) (fun iv _=>n-(intOf iv).toNat)
 case atStart=>exact⟨0,t,by omega,rfl,hZ rfl,H,hZ (PKp.refl _ _)⟩
 case round=>
  clear H;obtain⟨k,t',hk,rfl,HE,HS,HK⟩:=hrel;by_cases hlt:k<n
  ·have h1:k<l.length:=by have:=Hn.o;omega
   obtain⟨g,o1,cp,hv,y0,y1,y2⟩:=qAD.nth (HV.o.kp HK.o.2 (by decide)) k h1;injection hv with hv hq1 hv2;subst hv hv2;have hok:=qJW HOk.o k h1;have hnm:=qEd HNm.o k h1;have hE:=HE.o;rw[qJg l k h1]at hE;obtain⟨p,hp⟩:=eX (l[k]);rw[hp]at y0 y1 y2 hok hnm hE;have HEE:=hZ hE;have hnl:=qAi hok;have hml:=qJr hnm;have hbd:t'.length<=80000000:=by
    have h8:=congrArg List.length hE;have h9:=HLn.o;simp only[List.length_append]at h8;omega
   obtain⟨bx,hbx⟩:=eX wr.heap.size;obtain⟨w5,hw5⟩:=eX (wr.alloc (.cells #[.int .i64 p.n,.string ⟨p.name.toArray⟩,.int .i64 p.at_] 68));have hB5:Below wr.heap.size wr w5:=by rw[<-hw5];exact qAa _ _
   have HX5:Hid (qAy w5 bx 68 (prC p)):=hZ (by rw[<-hw5,<-hbx];exact qAy.new _ _ _);have HS5:=hZ (HS.o.below hB5);have HK5:=hZ (HK.o.trans (PKp.behind (Nat.le_trans hBw HK.o.1.size) hB5));have HOp:=hZ hok;have HNp:=hZ hnm;have hm0:(0:Int)<=(k:Int):=by omega
   have hm1:(k:Int)<(n:Int):=by omega
   clear hB5 hp hq1 h1 hE HE HS HK hok hnm;by_cases hk0:0<k
   ·have hk1:(0:Int)<(k:Int):=by omega
    obtain⟨w6,hw6⟩:=eX (w5.alloc (.cells #[.string ⟨#[44]⟩] 9));have hst:qCe w6 (.slice (some ⟨w5.heap.size,0,none⟩) 1 1) [[44]]:=by rw[<-hw6];exact qCe.lit w5 [[44]] 1 rfl (by omega)
    have hB6:Below w5.heap.size w5 w6:=by rw[<-hw6];exact qAa _ _
    have HX6:=hZ (HX5.o.below hB6 HX5.o.lt);have HK6:=hZ (HK5.o.trans (PKp.behind (Nat.le_trans hBw HK5.o.1.size) hB6));have HC6:=hZ (qCI B b t' true _ _ w6 (HS5.o.below hB6) hst (by simp[qAY];omega) (by simp) (Nat.le_trans hBw HK6.o.1.size));clear hst hB6 HX5 HS5 HK5
    go_wp2_with fail
    clear hw5 hw6 y0 y1 y2;refine HC6.o.mono ?_;rintro e w7 ⟨rfl,hS7,hK7⟩;have HS7:Hid (PSt B w7 b (t'++[44]) true):=hZ (by simpa[qAY]using hS7);have HX7:Hid (qAy w7 bx 68 (prC p)):=hZ (hK7.2 _ _ _ (by decide) HX6.o);have HK7:=hZ (HK6.o.trans hK7);have HEF:Hid (t++prL false l=(t'++[44])++(32::qAm p.n++32::p.name)++prL true (l.drop (k+1))):=hZ (by rw[HEE.o,if_pos hk0];simp);clear hS7 hK7 HC6 HX6 HK6 HEE;obtain⟨wd,hwd⟩:=eX w7.drew;have hBd:Below w7.heap.size w7 wd:=by rw[<-hwd];exact qAc _
    have HSd:=hZ (HS7.o.below hBd);have HXd:=hZ (HX7.o.below hBd HX7.o.lt);have HKd:=hZ (HK7.o.trans (PKp.behind (Nat.le_trans hBw HK7.o.1.size) hBd));have HCd:=hZ (qAM p.n wd HOp.o (HT.o.pkp hTB HKd.o));have x0:w7.cell? ⟨bx,0,none⟩=some (.int .i64 p.n):=HX7.o.cell 0;have x1:w7.cell? ⟨bx,1,none⟩=some (.string ⟨p.name.toArray⟩):=HX7.o.cell 1;clear hBd
    go_wp2_with fail
    clear hbx;refine qAs [6,7] (fun W=>W.cell? ⟨bx,0,none⟩=some (.int .i64 p.n)/\W.cell? ⟨bx,1,none⟩=some (.string ⟨p.name.toArray⟩)) (by kernel_rfl) (⟨x0,x1⟩) (fun hHeld=> ?_);rw[hwd]at hHeld ⊢;clear hwd x0 x1;refine pU 0 18 ?_;refine pU 1 19 ?_;refine qAb 2 20 (v:= ?_) rfl rfl (by kernel_rfl) (by kernel_rfl) (by kernel_rfl) (by kernel_rfl) (by kernel_rfl) (fun _ _ _ h=>h) (by rfl) ?_ (by assumption) ?_;rotate_left
    ·(intro w hSw;go_simp;first|done|with_reducible rfl)
    simp only[sX1,sX2,sX3];refine pU 4 22 ?_;refine qAb 5 23 (v:= ?_) rfl rfl (by kernel_rfl) (by kernel_rfl) (by kernel_rfl) (by kernel_rfl) (by kernel_rfl) (fun _ _ _ h=>h) (by rfl) ?_ (by assumption) ?_;rotate_left
    ·(intro w hSw;go_simp;first|done|with_reducible rfl)
    simp only[sX1,sX2,sX3];refine eU 3 fun K hK=> ?_;go_simp;refine HCd.o.mono ?_;rintro e w11 ⟨rfl,hB11⟩;have HX11:=hZ (HXd.o.below hB11 HXd.o.lt);have hS11:w11.cell? ⟨bx,0,none⟩=some (.int .i64 p.n)/\w11.cell? ⟨bx,1,none⟩=some (.string ⟨p.name.toArray⟩):=⟨HX11.o.cell 0,HX11.o.cell 1⟩;obtain⟨w12,hw12⟩:=eX (w11.alloc (.cells #[.string ⟨(qAm p.n).toArray⟩,.string ⟨p.name.toArray⟩] 9));have hst:qCe w12 (.slice (some ⟨w11.heap.size,0,none⟩) 2 2) [qAm p.n,p.name]:=by rw[<-hw12];exact qCe.lit w11 [qAm p.n,p.name] 2 rfl (by omega)
    have hB12:Below wd.heap.size wd w12:=hB11.trans ((by rw[<-hw12];exact qAa _ _:Below w11.heap.size w11 w12).mono hB11.size);have HK12:=hZ (HKd.o.trans (PKp.behind (Nat.le_trans hBw HKd.o.1.size) hB12));have HPW:Hid (qAY true [qAm p.n,p.name]=32::qAm p.n++32::p.name):=hZ (by rw[qAe (qAx _),qAe (qDm HNp.o)];simp[qAY]);have HC12:=hZ (qCI B b (t'++[44]) true _ _ w12 (HSd.o.below hB12) hst (by rw[HPW.o];simp;omega) (by simp) (Nat.le_trans hBw HK12.o.1.size));clear hB11 hB12 hst HCd hHeld HX11 HKd HXd HSd
    go_wp2_with fail
    refine hK.out _ _ (hS11) (fun hHeld=> ?_);clear hK K
    try simp only[Act.put,sX1,sX2,sX3]
    clear hS11;refine lU 6 fun K hK=> ?_;go_simp;refine hK.out _ _ ?_;clear hK K
    try simp only[Act.put,sX1,sX2,sX3]
    refine lU 7 fun K hK=> ?_;go_simp;clear hw12 hHeld;refine HC12.o.mono ?_;rintro e w13 ⟨rfl,hS13,hK13⟩;rw[HPW.o]at hS13;have HS13:=hZ hS13;have HK13:=hZ (HK12.o.trans hK13);clear hS13 hK13 HC12 HK12 HPW
    go_wp2_with fail
    refine hK.out _ _ ?_;clear hK K
    try simp only[Act.put,sX1,sX2,sX3]
    refine dU ?_
    go_wp2_with fail
    exact⟨⟨k+1,_,by omega,by go_num,hZ (by rw[HEF.o];simp),HS13,HK13⟩,by simp[intOf];omega⟩
   ·have hk1:¬(0:Int)<(k:Int):=by omega
    have HEF:Hid (t++prL false l=t'++(32::qAm p.n++32::p.name)++prL true (l.drop (k+1))):=hZ (by rw[HEE.o,if_neg hk0];simp);clear HEE;obtain⟨wd,hwd⟩:=eX w5.drew;have hBd:Below w5.heap.size w5 wd:=by rw[<-hwd];exact qAc _
    have HSd:=hZ (HS5.o.below hBd);have HXd:=hZ (HX5.o.below hBd HX5.o.lt);have HKd:=hZ (HK5.o.trans (PKp.behind (Nat.le_trans hBw HK5.o.1.size) hBd));have HCd:=hZ (qAM p.n wd HOp.o (HT.o.pkp hTB HKd.o));have x0:w5.cell? ⟨bx,0,none⟩=some (.int .i64 p.n):=HX5.o.cell 0;have x1:w5.cell? ⟨bx,1,none⟩=some (.string ⟨p.name.toArray⟩):=HX5.o.cell 1;clear hBd
    go_wp2_with fail
    clear hw5 hbx y0 y1 y2;refine qAs [6,7] (fun W=>W.cell? ⟨bx,0,none⟩=some (.int .i64 p.n)/\W.cell? ⟨bx,1,none⟩=some (.string ⟨p.name.toArray⟩)) (by kernel_rfl) (⟨x0,x1⟩) (fun hHeld=> ?_);rw[hwd]at hHeld ⊢;clear hwd x0 x1;refine pU 0 18 ?_;refine pU 1 19 ?_;refine qAb 2 20 (v:= ?_) rfl rfl (by kernel_rfl) (by kernel_rfl) (by kernel_rfl) (by kernel_rfl) (by kernel_rfl) (fun _ _ _ h=>h) (by rfl) ?_ (by assumption) ?_;rotate_left
    ·(intro w hSw;go_simp;first|done|with_reducible rfl)
    simp only[sX1,sX2,sX3];refine pU 4 22 ?_;refine qAb 5 23 (v:= ?_) rfl rfl (by kernel_rfl) (by kernel_rfl) (by kernel_rfl) (by kernel_rfl) (by kernel_rfl) (fun _ _ _ h=>h) (by rfl) ?_ (by assumption) ?_;rotate_left
    ·(intro w hSw;go_simp;first|done|with_reducible rfl)
    simp only[sX1,sX2,sX3];refine eU 3 fun K hK=> ?_;go_simp;refine HCd.o.mono ?_;rintro e w11 ⟨rfl,hB11⟩;have HX11:=hZ (HXd.o.below hB11 HXd.o.lt);have hS11:w11.cell? ⟨bx,0,none⟩=some (.int .i64 p.n)/\w11.cell? ⟨bx,1,none⟩=some (.string ⟨p.name.toArray⟩):=⟨HX11.o.cell 0,HX11.o.cell 1⟩;obtain⟨w12,hw12⟩:=eX (w11.alloc (.cells #[.string ⟨(qAm p.n).toArray⟩,.string ⟨p.name.toArray⟩] 9));have hst:qCe w12 (.slice (some ⟨w11.heap.size,0,none⟩) 2 2) [qAm p.n,p.name]:=by rw[<-hw12];exact qCe.lit w11 [qAm p.n,p.name] 2 rfl (by omega)
    have hB12:Below wd.heap.size wd w12:=hB11.trans ((by rw[<-hw12];exact qAa _ _:Below w11.heap.size w11 w12).mono hB11.size);have HK12:=hZ (HKd.o.trans (PKp.behind (Nat.le_trans hBw HKd.o.1.size) hB12));have HPW:Hid (qAY true [qAm p.n,p.name]=32::qAm p.n++32::p.name):=hZ (by rw[qAe (qAx _),qAe (qDm HNp.o)];simp[qAY]);have HC12:=hZ (qCI B b t' true _ _ w12 (HSd.o.below hB12) hst (by rw[HPW.o];simp;omega) (by simp) (Nat.le_trans hBw HK12.o.1.size));clear hB11 hB12 hst HCd hHeld HX11 HKd HXd HSd
    go_wp2_with fail
    refine hK.out _ _ (hS11) (fun hHeld=> ?_);clear hK K
    try simp only[Act.put,sX1,sX2,sX3]
    clear hS11;refine lU 6 fun K hK=> ?_;go_simp;refine hK.out _ _ ?_;clear hK K
    try simp only[Act.put,sX1,sX2,sX3]
    refine lU 7 fun K hK=> ?_;go_simp;clear hw12 hHeld;refine HC12.o.mono ?_;rintro e w13 ⟨rfl,hS13,hK13⟩;rw[HPW.o]at hS13;have HS13:=hZ hS13;have HK13:=hZ (HK12.o.trans hK13);clear hS13 hK13 HC12 HK12 HPW
    go_wp2_with fail
    refine hK.out _ _ ?_;clear hK K
    try simp only[Act.put,sX1,sX2,sX3]
    refine dU ?_
    go_wp2_with fail
    exact⟨⟨k+1,_,by omega,by go_num,hZ (by rw[HEF.o];simp),HS13,HK13⟩,by simp[intOf];omega⟩
  ·have hm1:¬(k:Int)<(n:Int):=by omega
   have HF:Hid (PSt B wr b (t++prL false l) true):=hZ (by
    have h9:=HE.o;rw[List.drop_of_length_le (by have:=Hn.o;omega)]at h9;rw[h9];simpa[prL]using HS.o)
   clear HE HS
   go_wp2_with fail
   go_end0
   exact⟨rfl,HF.o,HK.o⟩
theorem qDg(B b:Nat)(t word:Bs)(v:Value)(l:List Pr)(w:World)(h:PSt B w b t true)(hw:qFn word)(hwl:word.length<=100)(hv:qAD 68 w v l)(hl:l.length<=10000)(hok:okL l=true)(hnm:qAJ l=true)(hlen:t.length+(qAB word l).length<=80000000)(hBw:B<=w.heap.size)(hT:qB7 w)(hTB:1<B):
 Calls Tryd.prog 99 #[.pointer (some ⟨b,0,none⟩),.string ⟨word.toArray⟩,v] w fun e w'=>e=.returned (.tuple #[])/\PSt B w' b (t++qAB word l) true/\PKp B w w':=by
 obtain⟨a,cap,rfl, -,-⟩:=TSl.form hv;cases l with
 |nil=>
  have H:Hid (PSt B w b (t++qAB word []) true):=hZ (by simpa[qAB]using h);clear h hv
  go_enter Tryd.func99,Tryd.ntmps99
  go_wp2_with fail
  go_end0
  exact⟨rfl,H.o,PKp.refl _ _⟩
 |cons p l=>
  have hpp:qAB word (p::l)=(32::word)++prL false (p::l):=rfl;rw[hpp]at hlen;have HP:Hid (t++qAB word (p::l)=(t++32::word)++prL false (p::l)):=hZ (by rw[hpp];simp);obtain⟨l',hl'⟩:∃l',p::l=l':=⟨_,rfl⟩;have hpos:0<l'.length:=by rw[<-hl'];simp
  rw[hl']at HP hv hl hok hnm hlen;rw[hl'];clear hpp hl';obtain⟨m,hm⟩:=eX l'.length;rw[hm]at hv hpos hl;rw[hm];have hps:(0:Int)<(m:Int):=by omega
  have Hm:=hZ hm;have HV:=hZ hv;have HOk:=hZ hok;have HNm:=hZ hnm;have HT:=hZ hT;have HLn:=hZ hlen;simp only[List.length_append,List.length_cons]at hlen;obtain⟨w2,hw2⟩:=eX (w.alloc (.cells #[.string ⟨word.toArray⟩] 9));have hst:qCe w2 (.slice (some ⟨w.heap.size,0,none⟩) 1 1) [word]:=by rw[<-hw2];exact qCe.lit w [word] 1 rfl (by omega)
  have hB2:Below w.heap.size w w2:=by rw[<-hw2];exact qAa _ _
  have HK2:=hZ (PKp.behind hBw hB2);have HPW:Hid (qAY true [word]=32::word):=hZ (by rw[qAe hw];simp[qAY]);have HC2:=hZ (qCI B b t true _ _ w2 (h.below hB2) hst (by rw[HPW.o];simp;omega) (by simp) (Nat.le_trans hBw hB2.size));clear hst hB2 h hv hok hnm hT hm hw
  go_enter Tryd.func99,Tryd.ntmps99
  go_wp2_with fail
  refine HC2.o.mono ?_;rintro e w3 ⟨rfl,hS,hK⟩;rw[HPW.o]at hS;have HS:=hZ hS;have HK:=hZ (HK2.o.trans hK);have HC3:=hZ (qBz B b (t++32::word) _ l' w3 HS.o (HV.o.kp HK.o.2 (by decide)) (by have:=Hm.o;omega) HOk.o HNm.o (by have:=HLn.o;simp at this ⊢;omega) (Nat.le_trans hBw HK.o.1.size) (HT.o.pkp hTB HK.o) hTB);clear hS hK HC2 HK2 hw2
  go_wp2_with fail
  refine HC3.o.mono ?_;rintro e w4 ⟨rfl,hS,hK⟩;have HS4:=hZ hS;have HK4:=hZ (HK.o.trans hK);clear hS hK HC3 HK HS
  go_wp2_with fail
  go_end0
  exact⟨rfl,by rw[HP.o];exact HS4.o,HK4.o⟩
theorem DPt.pkp{B:Nat}{w w':World}{g o:Nat}{d:Dc}{y:Ls}(h:DPt w g o d y)(hg:g<B)(hk:PKp B w w'):DPt w' g o d y:=
 ⟨fun j v hv=>(hk.1.cell (p:=⟨g,o+j,none⟩) hg).trans (h.row j v hv),h.ls.kp hk.2 (by decide) (by decide) (by decide)⟩
theorem qAF(x:Fg):qFn x.word:=by cases x<;>exact⟨by decide,by decide,by decide⟩
structure PWk(B:Nat)(w0 w:World)(b g o:Nat)(d:Dc)(y:Ls)(t:Bs)(line:Bool):Prop where
 s:PSt B w b t line
 k:PKp B w0 w
 d:DPt w g o d y
 p:qB7 w
 z:B<=w.heap.size
theorem PWk.call{B b g o:Nat}{w0 w w':World}{d:Dc}{y:Ls}{t t':Bs}{l l':Bool}(h:PWk B w0 w b g o d y t l)(hg:g<B)(hT:1<B)(hs:PSt B w' b t' l')(hk:PKp B w w'):PWk B w0 w' b g o d y t' l':=
 ⟨hs,h.k.trans hk,h.d.pkp hg hk,h.p.pkp hT hk,Nat.le_trans h.z hk.1.size⟩
theorem PWk.below{B b g o:Nat}{w0 w w':World}{d:Dc}{y:Ls}{t:Bs}{l:Bool}(h:PWk B w0 w b g o d y t l)(hg:g<B)(hT:1<B)(hb:Below w.heap.size w w'):PWk B w0 w' b g o d y t l:=
 h.call hg hT (h.s.below hb) (PKp.behind h.z hb)
theorem qBZ(B b g o:Nat)(w0 w w':World)(d:Dc)(y:Ls)(t:Bs)(l:Bool)(ts:List Bs)(n:Nat)(h:PWk B w0 w b g o d y t l)(hg:g<B)(hT:1<B)(hn:ts.length=n)(hm:n<=1000)(hlen:t.length+(qAY l ts).length<=90000000)
 (hw:w.alloc (.cells (ts.map (fun s=>Value.string ⟨s.toArray⟩)).toArray 9)=w'):
 Calls Tryd.prog 59 #[.pointer (some ⟨b,0,none⟩),.slice (some ⟨w.heap.size,0,none⟩) n n] w' fun e w2=>e=.returned (.tuple #[])/\PWk B w0 w2 b g o d y (t++qAY l ts) (l|| !ts.isEmpty):=by
 have hst:qCe w' (.slice (some ⟨w.heap.size,0,none⟩) n n) ts:=by rw[<-hw];exact qCe.lit w ts n hn hm
 have hb:Below w.heap.size w w':=by rw[<-hw];exact qAa _ _
 have h':=h.below hg hT hb;refine(qCI B b t l _ ts w' h'.s hst hlen (by omega) h'.z).mono ?_;rintro e w2 ⟨rfl,hs,hk⟩;exact⟨rfl,h'.call hg hT hs hk⟩
theorem qIC(B b g o:Nat)(d:Dc)(y:Ls)(t:Bs)(w:World)(h:PWk B w w b g o d y t true)(hg:g<B)(hT:1<B)(hn:qAj d.wear=true/\qAj d.level=true)(hlen:t.length<=70000000):
 Calls Tryd.prog 60 #[.pointer (some ⟨b,0,none⟩),.pointer (some ⟨g,o,none⟩)] w fun e w'=>e=.returned (.tuple #[])/\PWk B w w' b g o d y (t++qB0 qAQ d.object++qB0 qBf d.mixed++qB0 qCc d.coin++qAz qDb d.wear++qBb d.bind++qAz qAO d.level) true:=by
 have HW:=hZ h;have HLn:Hid (t.length<=70000000):=hZ hlen;clear h hlen
 go_enter Tryd.func60,Tryd.ntmps60
 have hc:w.cell? ⟨g,o+3,none⟩=some (.bool d.object):=HW.o.d.row 3 _ rfl
 go_upto_if 7 with fail
 go_cut []from 2 (fun wc=>Hid (PWk B w wc b g o d y (t++qB0 qAQ d.object) true))
 case first=>
  have HPW:Hid (qAY true [qAQ]=32::qAQ):=hZ (by rw[qAe (s:=qAQ) (qAF .object)];simp[qAY]);cases hb:d.object with
  |true=>
   obtain⟨wa,hwa⟩:=eX (w.alloc (.cells #[.string ⟨#[111,98,106,101,99,116]⟩] 9));have HCp:=hZ (qBZ B b g o w w wa d y t true [qAQ] 1 HW.o hg hT rfl (by omega) (by rw[HPW.o];have:=HLn.o;simp[qAQ];omega) hwa);rw[hb]at hc
   go_wp2_with fail
   refine HCp.o.mono ?_;rintro e w9 ⟨rfl,h9⟩;rw[HPW.o]at h9;have H9:=hZ h9;clear h9 HCp hwa
   go_wp2_with fail
   go_meet
   case rel=>rw[hb];exact H9
  |false=>
   rw[hb]at hc
   go_wp2_with fail
   go_meet
   case rel=>rw[hb];exact hZ (by have:=HW.o;simpa[qB0]using this)
 case rest=>
  clear HW hc;obtain⟨w1,hwn⟩:∃W,W=wc:=⟨_,rfl⟩;subst hwn;have HW:=hcut;clear hcut;obtain⟨t1,ht1⟩:=eX (t++qB0 qAQ d.object);rw[ht1]at HW;have HL1:Hid (t1.length<=70000000+20):=hZ (by rw[<-ht1];have:=HLn.o;have:=qCr qAQ d.object;simp[qAQ]at this ⊢;omega);have HT1:=hZ ht1;clear ht1;have hc:w1.cell? ⟨g,o+4,none⟩=some (.bool d.mixed):=HW.o.d.row 4 _ rfl
  go_upto_if 14 with fail
  go_cut []from 2 (fun wc=>Hid (PWk B w wc b g o d y (t1++qB0 qBf d.mixed) true))
  case first=>
   have HPW:Hid (qAY true [qBf]=32::qBf):=hZ (by rw[qAe (s:=qBf) (qAF .mixed)];simp[qAY]);cases hb:d.mixed with
   |true=>
    obtain⟨wa,hwa⟩:=eX (w1.alloc (.cells #[.string ⟨#[109,105,120,101,100]⟩] 9));have HCp:=hZ (qBZ B b g o w w1 wa d y t1 true [qBf] 1 HW.o hg hT rfl (by omega) (by rw[HPW.o];have:=HL1.o;simp[qBf];omega) hwa);rw[hb]at hc
    go_wp2_with fail
    refine HCp.o.mono ?_;rintro e w9 ⟨rfl,h9⟩;rw[HPW.o]at h9;have H9:=hZ h9;clear h9 HCp hwa
    go_wp2_with fail
    go_meet
    case rel=>rw[hb];exact H9
   |false=>
    rw[hb]at hc
    go_wp2_with fail
    go_meet
    case rel=>rw[hb];exact hZ (by have:=HW.o;simpa[qB0]using this)
  case rest=>
   clear HW hc;obtain⟨w2,hwn⟩:∃W,W=wc:=⟨_,rfl⟩;subst hwn;have HW:=hcut;clear hcut;obtain⟨t2,ht2⟩:=eX (t1++qB0 qBf d.mixed);rw[ht2]at HW;have HL2:Hid (t2.length<=70000000+40):=hZ (by rw[<-ht2];have:=HL1.o;have:=qCr qBf d.mixed;simp[qBf]at this ⊢;omega);have HT2:=hZ ht2;clear ht2;have hc:w2.cell? ⟨g,o+5,none⟩=some (.bool d.coin):=HW.o.d.row 5 _ rfl
   go_upto_if 21 with fail
   go_cut []from 2 (fun wc=>Hid (PWk B w wc b g o d y (t2++qB0 qCc d.coin) true))
   case first=>
    have HPW:Hid (qAY true [qCc]=32::qCc):=hZ (by rw[qAe (s:=qCc) (qAF .coin)];simp[qAY]);cases hb:d.coin with
    |true=>
     obtain⟨wa,hwa⟩:=eX (w2.alloc (.cells #[.string ⟨#[99,111,105,110]⟩] 9));have HCp:=hZ (qBZ B b g o w w2 wa d y t2 true [qCc] 1 HW.o hg hT rfl (by omega) (by rw[HPW.o];have:=HL2.o;simp[qCc];omega) hwa);rw[hb]at hc
     go_wp2_with fail
     refine HCp.o.mono ?_;rintro e w9 ⟨rfl,h9⟩;rw[HPW.o]at h9;have H9:=hZ h9;clear h9 HCp hwa
     go_wp2_with fail
     go_meet
     case rel=>rw[hb];exact H9
    |false=>
     rw[hb]at hc
     go_wp2_with fail
     go_meet
     case rel=>rw[hb];exact hZ (by have:=HW.o;simpa[qB0]using this)
   case rest=>
    clear HW hc;obtain⟨w3,hwn⟩:∃W,W=wc:=⟨_,rfl⟩;subst hwn;have HW:=hcut;clear hcut;obtain⟨t3,ht3⟩:=eX (t2++qB0 qCc d.coin);rw[ht3]at HW;have HL3:Hid (t3.length<=70000000+60):=hZ (by rw[<-ht3];have:=HL2.o;have:=qCr qCc d.coin;simp[qCc]at this ⊢;omega);have HT3:=hZ ht3;clear ht3;have hc:w3.cell? ⟨g,o+6,none⟩=some (.int .i64 d.wear):=HW.o.d.row 6 _ rfl;have HCo:=hZ (qCv B b t3 qDb d.wear w3 HW.o.s (qAF .wear) (by decide) hn.1 (by have:=HL3.o;omega) HW.o.z HW.o.p)
    go_wp2_with fail
    refine HCo.o.mono ?_;rintro e w4 ⟨rfl,hs,hk⟩;have h9:=hZ (HW.o.call hg hT hs hk);clear HW hs hk HCo hc;have HW:=h9;clear h9;obtain⟨t4,ht4⟩:=eX (t3++qAz qDb d.wear);rw[ht4]at HW;have HL4:Hid (t4.length<=70000000+80):=hZ (by rw[<-ht4];have:=HL3.o;have:=qBo hn.1 qDb;simp[qDb]at this ⊢;omega);have HT4:=hZ ht4;clear ht4;have hc:w4.cell? ⟨g,o+7,none⟩=some (.int .i64 d.bind):=HW.o.d.row 7 _ rfl
    go_upto_block 0 with fail
    go_cut []from 2 (fun wc=>Hid (PWk B w wc b g o d y (t4++qBb d.bind) true))
    case first=>
     by_cases hb:d.bind=1
     ·obtain⟨wa,hwa⟩:=eX (w4.alloc (.cells #[.string ⟨#[98,105,110,100]⟩,.string ⟨#[103,101,116]⟩] 9))
      have HPW:Hid (qAY true [qEV,qHO]=qBb 1):=hZ (by decide);have HCp:=hZ (qBZ B b g o w w4 wa d y t4 true [qEV,qHO] 2 HW.o hg hT rfl (by omega) (by rw[HPW.o];have:=HL4.o;have:=qCs 1;omega) hwa);rw[hb]at hc
      go_wp2_with fail
      refine HCp.o.mono ?_;rintro e w9 ⟨rfl,h9⟩;rw[HPW.o]at h9;have H9:=hZ h9;clear h9 HCp hwa
      go_wp2_with fail
      go_meet
      case rel=>rw[hb];exact H9
     ·by_cases hb2:d.bind=2
      ·have hb:=hb2
       obtain⟨wa,hwa⟩:=eX (w4.alloc (.cells #[.string ⟨#[98,105,110,100]⟩,.string ⟨#[117,115,101]⟩] 9));have HPW:Hid (qAY true [qEV,qG9]=qBb 2):=hZ (by decide);have HCp:=hZ (qBZ B b g o w w4 wa d y t4 true [qEV,qG9] 2 HW.o hg hT rfl (by omega) (by rw[HPW.o];have:=HL4.o;have:=qCs 2;omega) hwa);rw[hb]at hc
       go_wp2_with fail
       refine HCp.o.mono ?_;rintro e w9 ⟨rfl,h9⟩;rw[HPW.o]at h9;have H9:=hZ h9;clear h9 HCp hwa
       go_wp2_with fail
       go_meet
       case rel=>rw[hb];exact H9
      ·have e1:(d.bind==1)=false:=by simpa using hb
       have e2:(d.bind==2)=false:=by simpa using hb2
       have HPW:Hid (qBb d.bind=[]):=hZ (by unfold qBb;rw[if_neg hb,if_neg hb2])
       go_wp2_with fail
       go_meet
       case rel=>rw[HPW.o];exact hZ (by have:=HW.o;simpa using this)
    case rest=>
     clear HW hc;obtain⟨w5,hwn⟩:∃W,W=wc:=⟨_,rfl⟩;subst hwn;have HW:=hcut;clear hcut;obtain⟨t5,ht5⟩:=eX (t4++qBb d.bind);rw[ht5]at HW;have HL5:Hid (t5.length<=70000000+100):=hZ (by rw[<-ht5];have:=HL4.o;have:=qCs d.bind;simp;omega);have HT5:=hZ ht5;clear ht5;have hc:w5.cell? ⟨g,o+8,none⟩=some (.int .i64 d.level):=HW.o.d.row 8 _ rfl;have HCo:=hZ (qCv B b t5 qAO d.level w5 HW.o.s (qAF .level) (by decide) hn.2 (by have:=HL5.o;omega) HW.o.z HW.o.p)
     go_wp2_with fail
     refine HCo.o.mono ?_;rintro e w6 ⟨rfl,hs,hk⟩;have h9:=hZ (HW.o.call hg hT hs hk);clear HW hs hk HCo hc;have HW:=h9;clear h9;obtain⟨t6,ht6⟩:=eX (t5++qAz qAO d.level);rw[ht6]at HW;have HL6:Hid (t6.length<=70000000+120):=hZ (by rw[<-ht6];have:=HL5.o;have:=qBo hn.2 qAO;simp[qAO]at this ⊢;omega);have HT6:=hZ ht6;clear ht6
     go_wp2_with fail
     go_end0
     exact⟨rfl,by rw[HT1.o,HT2.o,HT3.o,HT4.o,HT5.o,HT6.o];exact HW.o⟩
theorem qFD(B b g o:Nat)(d:Dc)(y:Ls)(t:Bs)(w:World)(h:PWk B w w b g o d y t true)(hg:g<B)(hT:1<B)(hn:qAj d.level=true/\qAj d.time=true/\qAj d.chance=true/\qAj d.of_=true)
 (hl:(okL d.take=true/\qAJ d.take=true)/\(okL d.give=true/\qAJ d.give=true)/\okL d.back=true/\qAJ d.back=true)(hD:DL 10000 d)(hsz:(qAB qDc d.take).length<=1000000/\(qAB qDe d.give).length<=1000000/\(qAB qDf d.back).length<=1000000)(hlen:t.length<=70000000):
 Calls Tryd.prog 61 #[.pointer (some ⟨b,0,none⟩),.pointer (some ⟨g,o,none⟩)] w fun e w'=>e=.returned (.tuple #[])/\PWk B w w' b g o d y (t++qAz qAO d.level++qAz qCS d.time++qAl d.chance d.of_++qAB qDc d.take++qAB qDe d.give++qAB qDf d.back) true:=by
 have HW:=hZ h;have HLn:Hid (t.length<=70000000):=hZ hlen;have HLs:=hZ hl;have HD:=hZ hD;have HSz:=hZ hsz;clear h hlen hl hD hsz
 go_enter Tryd.func61,Tryd.ntmps61
 have hc:w.cell? ⟨g,o+8,none⟩=some (.int .i64 d.level):=HW.o.d.row 8 _ rfl;have HCo:=hZ (qCv B b t qAO d.level w HW.o.s (qAF .level) (by decide) hn.1 (by have:=HLn.o;omega) HW.o.z HW.o.p)
 go_wp2_with fail
 refine HCo.o.mono ?_;rintro e w1 ⟨rfl,hs,hk⟩;have h9:=hZ (HW.o.call hg hT hs hk);clear HW hs hk HCo hc;have HW:=h9;clear h9;obtain⟨t1,ht1⟩:=eX (t++qAz qAO d.level);rw[ht1]at HW;have HL1:Hid (t1.length<=70000000+20):=hZ (by rw[<-ht1];have:=HLn.o;have:=qBo hn.1 qAO;simp[qAO]at this ⊢;omega);have HT1:=hZ ht1;clear ht1;have hc:w1.cell? ⟨g,o+9,none⟩=some (.int .i64 d.time):=HW.o.d.row 9 _ rfl;have HCo:=hZ (qCv B b t1 qCS d.time w1 HW.o.s (qAF .time) (by decide) hn.2.1 (by have:=HL1.o;omega) HW.o.z HW.o.p)
 go_wp2_with fail
 refine HCo.o.mono ?_;rintro e w2 ⟨rfl,hs,hk⟩;have h9:=hZ (HW.o.call hg hT hs hk);clear HW hs hk HCo hc;have HW:=h9;clear h9;obtain⟨t2,ht2⟩:=eX (t1++qAz qCS d.time);rw[ht2]at HW;have HL2:Hid (t2.length<=70000000+40):=hZ (by rw[<-ht2];have:=HL1.o;have:=qBo hn.2.1 qCS;simp[qCS]at this ⊢;omega);have HT2:=hZ ht2;clear ht2;have c10:w2.cell? ⟨g,o+10,none⟩=some (.int .i64 d.chance):=HW.o.d.row 10 _ rfl;have c11:w2.cell? ⟨g,o+11,none⟩=some (.int .i64 d.of_):=HW.o.d.row 11 _ rfl
 dsimp only
 go_step
 go_step
 go_step
 go_step
 go_step
 go_cut []from 2 (fun wc=>Hid (PWk B w wc b g o d y (t2++qAl d.chance d.of_) true))
 case first=>
  by_cases h1:d.chance=0
  ·have e1:(d.chance==0)=true:=by simpa using h1
   have e9:(d.chance != 0)=false:=by simpa using h1
   by_cases h2:d.of_=0
   ·have HPC:Hid (qAl d.chance d.of_=[]):=hZ (by unfold qAl;rw[if_pos ⟨h1,h2⟩])
    have e2:(d.of_==0)=true:=by simpa using h2
    have e3:(d.of_ != 0)=false:=by simpa using h2
    clear h1 h2
    go_wp2_with fail
    go_meet
    case rel=>rw[HPC.o];exact hZ (by have:=HW.o;simpa using this)
   ·have HPC:Hid (qAl d.chance d.of_=32::qAL++32::qAm d.chance++32::wOf++32::qAm d.of_):=hZ (by unfold qAl;rw[if_neg (fun h=>h2 h.2)])
    have e2:(d.of_==0)=false:=by simpa using h2
    have e3:(d.of_ != 0)=true:=by simpa using h2
    clear h1 h2;obtain⟨wd,hwd⟩:=eX w2.drew;have hBd:Below w2.heap.size w2 wd:=by rw[<-hwd];exact qAc _
    have HWd:=hZ (HW.o.below hg hT hBd);have HC1:=hZ (qAM d.chance wd hn.2.2.1 HWd.o.p);clear hBd
    go_wp2_with fail
    refine qAs [11,12] (fun W=>W.cell? ⟨g,o+10,none⟩=some (.int .i64 d.chance)/\W.cell? ⟨g,o+11,none⟩=some (.int .i64 d.of_)) (by kernel_rfl) (⟨c10,c11⟩) (fun hHeld=> ?_);rw[hwd]at hHeld ⊢;clear hwd;refine pU 0 28 ?_;refine pU 1 29 ?_;refine pU 2 30 ?_;refine pU 3 31 ?_;refine qAb 4 32 (v:= ?_) rfl rfl (by kernel_rfl) (by kernel_rfl) (by kernel_rfl) (by kernel_rfl) (by kernel_rfl) (fun _ _ _ h=>h) (by rfl) ?_ (by assumption) ?_;rotate_left
    ·(intro w hSw;go_simp;first|done|with_reducible rfl)
    simp only[sX1,sX2,sX3];refine pU 6 34 ?_;refine pU 7 35 ?_;refine pU 8 36 ?_;refine qAb 9 37 (v:= ?_) rfl rfl (by kernel_rfl) (by kernel_rfl) (by kernel_rfl) (by kernel_rfl) (by kernel_rfl) (fun _ _ _ h=>h) (by rfl) ?_ (by assumption) ?_;rotate_left
    ·(intro w hSw;go_simp;first|done|with_reducible rfl)
    simp only[sX1,sX2,sX3];refine eU 5 fun K hK=> ?_;go_simp;refine HC1.o.mono ?_;rintro e w11 ⟨rfl,hB11⟩;have HW11:=hZ (HWd.o.below hg hT hB11);have HC2:=hZ (qAM d.of_ w11 hn.2.2.2 HW11.o.p);have h11S:w11.cell? ⟨g,o+10,none⟩=some (.int .i64 d.chance)/\w11.cell? ⟨g,o+11,none⟩=some (.int .i64 d.of_):=⟨HW11.o.d.row 10 _ rfl,HW11.o.d.row 11 _ rfl⟩;clear hB11 HC1 HWd hHeld
    go_wp2_with fail
    refine hK.out _ _ (h11S) (fun hHeld=> ?_);clear hK K
    try simp only[Act.put,sX1,sX2,sX3]
    clear h11S;refine eU 10 fun K hK=> ?_;go_simp;refine HC2.o.mono ?_;rintro e w12 ⟨rfl,hB12⟩;have HW12:=hZ (HW11.o.below hg hT hB12);have h12S:w12.cell? ⟨g,o+10,none⟩=some (.int .i64 d.chance)/\w12.cell? ⟨g,o+11,none⟩=some (.int .i64 d.of_):=⟨HW12.o.d.row 10 _ rfl,HW12.o.d.row 11 _ rfl⟩;obtain⟨wa,hwa⟩:=eX (w12.alloc (.cells #[.string ⟨#[99,104,97,110,99,101]⟩,.string ⟨(qAm d.chance).toArray⟩,.string ⟨#[111,102]⟩,.string ⟨(qAm d.of_).toArray⟩] 9));have hnof:qFn wOf:=⟨by decide,by decide,by decide⟩;have HPW:Hid (qAY true [qAL,qAm d.chance,wOf,qAm d.of_]=32::qAL++32::qAm d.chance++32::wOf++32::qAm d.of_):=hZ (by rw[qAe (s:=qAL) (qAF .chance),qAe (qAx _),qAe hnof,qAe (qAx _)];simp[qAY]);have HCp:=hZ (qBZ B b g o w w12 wa d y t2 true [qAL,qAm d.chance,wOf,qAm d.of_] 4 HW12.o hg hT rfl (by omega) (by rw[HPW.o];have:=HL2.o;have:=qAi hn.2.2.1;have:=qAi hn.2.2.2;simp[qAL,wOf];omega) hwa);clear hB12 HC2 HW11 hHeld hnof
    go_wp2_with fail
    refine hK.out _ _ (h12S) (fun hHeld=> ?_);clear hK K
    try simp only[Act.put,sX1,sX2,sX3]
    clear h12S;refine lU 11 fun K hK=> ?_;go_simp;refine hK.out _ _ ?_;clear hK K
    try simp only[Act.put,sX1,sX2,sX3]
    refine lU 12 fun K hK=> ?_;go_simp;clear hwa hHeld;refine HCp.o.mono ?_;rintro e w9 ⟨rfl,h9⟩;rw[HPW.o]at h9;have H9:=hZ h9;clear h9 HCp HW12 HPW
    go_wp2_with fail
    refine hK.out _ _ ?_;clear hK K
    try simp only[Act.put,sX1,sX2,sX3]
    refine dU ?_
    go_wp2_with fail
    go_meet
    case rel=>rw[HPC.o];exact H9
  ·have HPC:Hid (qAl d.chance d.of_=32::qAL++32::qAm d.chance++32::wOf++32::qAm d.of_):=hZ (by unfold qAl;rw[if_neg (fun h=>h1 h.1)])
   have e1:(d.chance==0)=false:=by simpa using h1
   have e3:(d.chance != 0)=true:=by simpa using h1
   clear h1;obtain⟨wd,hwd⟩:=eX w2.drew;have hBd:Below w2.heap.size w2 wd:=by rw[<-hwd];exact qAc _
   have HWd:=hZ (HW.o.below hg hT hBd);have HC1:=hZ (qAM d.chance wd hn.2.2.1 HWd.o.p);clear hBd
   go_wp2_with fail
   refine qAs [11,12] (fun W=>W.cell? ⟨g,o+10,none⟩=some (.int .i64 d.chance)/\W.cell? ⟨g,o+11,none⟩=some (.int .i64 d.of_)) (by kernel_rfl) (⟨c10,c11⟩) (fun hHeld=> ?_);rw[hwd]at hHeld ⊢;clear hwd;refine pU 0 28 ?_;refine pU 1 29 ?_;refine pU 2 30 ?_;refine pU 3 31 ?_;refine qAb 4 32 (v:= ?_) rfl rfl (by kernel_rfl) (by kernel_rfl) (by kernel_rfl) (by kernel_rfl) (by kernel_rfl) (fun _ _ _ h=>h) (by rfl) ?_ (by assumption) ?_;rotate_left
   ·(intro w hSw;go_simp;first|done|with_reducible rfl)
   simp only[sX1,sX2,sX3];refine pU 6 34 ?_;refine pU 7 35 ?_;refine pU 8 36 ?_;refine qAb 9 37 (v:= ?_) rfl rfl (by kernel_rfl) (by kernel_rfl) (by kernel_rfl) (by kernel_rfl) (by kernel_rfl) (fun _ _ _ h=>h) (by rfl) ?_ (by assumption) ?_;rotate_left
   ·(intro w hSw;go_simp;first|done|with_reducible rfl)
   simp only[sX1,sX2,sX3];refine eU 5 fun K hK=> ?_;go_simp;refine HC1.o.mono ?_;rintro e w11 ⟨rfl,hB11⟩;have HW11:=hZ (HWd.o.below hg hT hB11);have HC2:=hZ (qAM d.of_ w11 hn.2.2.2 HW11.o.p);have h11S:w11.cell? ⟨g,o+10,none⟩=some (.int .i64 d.chance)/\w11.cell? ⟨g,o+11,none⟩=some (.int .i64 d.of_):=⟨HW11.o.d.row 10 _ rfl,HW11.o.d.row 11 _ rfl⟩;clear hB11 HC1 HWd hHeld
   go_wp2_with fail
   refine hK.out _ _ (h11S) (fun hHeld=> ?_);clear hK K
   try simp only[Act.put,sX1,sX2,sX3]
   clear h11S;refine eU 10 fun K hK=> ?_;go_simp;refine HC2.o.mono ?_;rintro e w12 ⟨rfl,hB12⟩;have HW12:=hZ (HW11.o.below hg hT hB12);have h12S:w12.cell? ⟨g,o+10,none⟩=some (.int .i64 d.chance)/\w12.cell? ⟨g,o+11,none⟩=some (.int .i64 d.of_):=⟨HW12.o.d.row 10 _ rfl,HW12.o.d.row 11 _ rfl⟩;obtain⟨wa,hwa⟩:=eX (w12.alloc (.cells #[.string ⟨#[99,104,97,110,99,101]⟩,.string ⟨(qAm d.chance).toArray⟩,.string ⟨#[111,102]⟩,.string ⟨(qAm d.of_).toArray⟩] 9));have hnof:qFn wOf:=⟨by decide,by decide,by decide⟩;have HPW:Hid (qAY true [qAL,qAm d.chance,wOf,qAm d.of_]=32::qAL++32::qAm d.chance++32::wOf++32::qAm d.of_):=hZ (by rw[qAe (s:=qAL) (qAF .chance),qAe (qAx _),qAe hnof,qAe (qAx _)];simp[qAY]);have HCp:=hZ (qBZ B b g o w w12 wa d y t2 true [qAL,qAm d.chance,wOf,qAm d.of_] 4 HW12.o hg hT rfl (by omega) (by rw[HPW.o];have:=HL2.o;have:=qAi hn.2.2.1;have:=qAi hn.2.2.2;simp[qAL,wOf];omega) hwa);clear hB12 HC2 HW11 hHeld hnof
   go_wp2_with fail
   refine hK.out _ _ (h12S) (fun hHeld=> ?_);clear hK K
   try simp only[Act.put,sX1,sX2,sX3]
   clear h12S;refine lU 11 fun K hK=> ?_;go_simp;refine hK.out _ _ ?_;clear hK K
   try simp only[Act.put,sX1,sX2,sX3]
   refine lU 12 fun K hK=> ?_;go_simp;clear hwa hHeld;refine HCp.o.mono ?_;rintro e w9 ⟨rfl,h9⟩;rw[HPW.o]at h9;have H9:=hZ h9;clear h9 HCp HW12 HPW
   go_wp2_with fail
   refine hK.out _ _ ?_;clear hK K
   try simp only[Act.put,sX1,sX2,sX3]
   refine dU ?_
   go_wp2_with fail
   go_meet
   case rel=>rw[HPC.o];exact H9
 case rest=>
  clear HW c10 c11;obtain⟨w3,hwn⟩:∃W,W=wc:=⟨_,rfl⟩;subst hwn;have HW:=hcut;clear hcut;obtain⟨t3,ht3⟩:=eX (t2++qAl d.chance d.of_);rw[ht3]at HW;have HL3:Hid (t3.length<=70000000+100):=hZ (by rw[<-ht3];have:=HL2.o;have:=qDw hn.2.2.1 hn.2.2.2;simp;omega);have HT3:=hZ ht3;clear ht3;have hc:w3.cell? ⟨g,o+12,none⟩=some y.t:=HW.o.d.row 12 _ rfl;have HCo:=hZ (qDg B b t3 qDc y.t d.take w3 HW.o.s (qAF .take) (by decide) HW.o.d.ls.t HD.o.1 HLs.o.1.1 HLs.o.1.2 (by have:=HL3.o;have:=HSz.o.1;omega) HW.o.z HW.o.p hT)
  go_wp2_with fail
  refine HCo.o.mono ?_;rintro e w4 ⟨rfl,hs,hk⟩;have h9:=hZ (HW.o.call hg hT hs hk);clear HW hs hk HCo hc;have HW:=h9;clear h9;obtain⟨t4,ht4⟩:=eX (t3++qAB qDc d.take);rw[ht4]at HW;have HL4:Hid (t4.length<=70000000+1000100):=hZ (by rw[<-ht4];have:=HL3.o;have:=HSz.o.1;simp;omega);have HT4:=hZ ht4;clear ht4;have hc:w4.cell? ⟨g,o+13,none⟩=some y.g:=HW.o.d.row 13 _ rfl;have HCo:=hZ (qDg B b t4 qDe y.g d.give w4 HW.o.s (qAF .give) (by decide) HW.o.d.ls.g HD.o.2.1 HLs.o.2.1.1 HLs.o.2.1.2 (by have:=HL4.o;have:=HSz.o.2.1;omega) HW.o.z HW.o.p hT)
  go_wp2_with fail
  refine HCo.o.mono ?_;rintro e w5 ⟨rfl,hs,hk⟩;have h9:=hZ (HW.o.call hg hT hs hk);clear HW hs hk HCo hc;have HW:=h9;clear h9;obtain⟨t5,ht5⟩:=eX (t4++qAB qDe d.give);rw[ht5]at HW;have HL5:Hid (t5.length<=70000000+2000100):=hZ (by rw[<-ht5];have:=HL4.o;have:=HSz.o.2.1;simp;omega);have HT5:=hZ ht5;clear ht5;have hc:w5.cell? ⟨g,o+14,none⟩=some y.b:=HW.o.d.row 14 _ rfl;have HCo:=hZ (qDg B b t5 qDf y.b d.back w5 HW.o.s (qAF .back) (by decide) HW.o.d.ls.b HD.o.2.2.1 HLs.o.2.2.1 HLs.o.2.2.2 (by have:=HL5.o;have:=HSz.o.2.2;omega) HW.o.z HW.o.p hT)
  go_wp2_with fail
  refine HCo.o.mono ?_;rintro e w6 ⟨rfl,hs,hk⟩;have h9:=hZ (HW.o.call hg hT hs hk);clear HW hs hk HCo hc;have HW:=h9;clear h9;obtain⟨t6,ht6⟩:=eX (t5++qAB qDf d.back);rw[ht6]at HW;have HL6:Hid (t6.length<=70000000+3000100):=hZ (by rw[<-ht6];have:=HL5.o;have:=HSz.o.2.2;simp;omega);have HT6:=hZ ht6;clear ht6
  go_wp2_with fail
  go_end0
  exact⟨rfl,by rw[HT1.o,HT2.o,HT3.o,HT4.o,HT5.o,HT6.o];exact HW.o⟩
end Go.Proofs.YtpmnbcdjoomgcaaDoor
