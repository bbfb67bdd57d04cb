/- The reference's generator: next, name, list. -/
import Derived.Test.YtpmnbcdjoomgcaaDoorQAQSam3
import Derived.Test.YtpmnbcdjoomgcaaDoorQAPPut
set_option linter.unusedVariables false
set_option linter.unusedSimpArgs false
set_option maxHeartbeats 4000000
set_option maxRecDepth 100000
namespace Go.Proofs.YtpmnbcdjoomgcaaDoor
open Go.RowKit
def pkN(zs:List Int)(len:Nat):Pk:=fun i m=>qCd zs len i m
theorem qAw(zs:List Int)(len:Nat):qG6 (pkN zs len):=fun i m hm=>qD5 zs len i m hm
def GB(w:World)(b:Nat)(v:Value)(i:Nat):Prop:=w.heap[b]? =some (.cells #[v,.int .i64 i] 71 (0,0))
structure GSt(w0 w:World)(b:Nat)(v:Value)(zs:List Int)(len i:Nat):Prop where
 gb:GB w b v i
 bel:Below w0.heap.size w0 w
 lo:w0.heap.size<=b
 ints:qA3 w0 v zs len
section
variable {w0 w w':World}{b len i:Nat}{v:Value}{zs:List Int}
theorem GSt.at_(h:GSt w0 w b v zs len i):qA3 w v zs len:=h.ints.below (Nat.le_refl _) h.bel
theorem GSt.lt(h:GSt w0 w b v zs len i):b<w.heap.size:=qAq h.gb
theorem GSt.below(h:GSt w0 w b v zs len i)(hb:Below w.heap.size w w'):GSt w0 w' b v zs len i:=⟨(hb.block b h.lt).trans h.gb,h.bel.trans (hb.mono h.bel.size),h.lo,h.ints⟩
theorem GSt.cell(h:GSt w0 w b v zs len i)(j:Nat):w.cell? ⟨b,j,none⟩=[v,.int .i64 (i:Int)][j]? :=by
 rw[cell_of_row w b j _ _ (0,0) h.gb];simp
theorem GSt.frozen(h:GSt w0 w b v zs len i)(j:Nat):w.frozen? ⟨b,j,none⟩=false:=by
 have:=h.gb;unfold GB at this;simp[World.frozen?,this]
theorem GSt.next(h:GSt w0 w b v zs len i):GSt w0 (w.setCell ⟨b,1,none⟩ (.int .i64 ((i+1:Nat):Int))) b v zs len (i+1)/\qAg (fun k=>k=b) w (w.setCell ⟨b,1,none⟩ (.int .i64 ((i+1:Nat):Int))):=by
 have hb:=h.gb;unfold GB at hb;refine⟨⟨by unfold GB;simp[World.setCell,Array.getElem?_modify,hb],h.bel.setCell (p:=⟨b,1,none⟩) h.lo _,h.lo,h.ints⟩,(qAg.refl (fun k=>k=b) w).set (p:=⟨b,1,none⟩) rfl _⟩
theorem GSt.kpx(h:GSt w0 w b v zs len i)(ho:qAg (fun k=>k=b) w w'):KpX [71] w w':=
 KpX.of_only ho (fun j hj e cs hh=>by
  subst hj;have:=h.gb;unfold GB at this;rw[this]at hh;injection hh with hh;injection hh with _ hh;rw[<-hh];simp)
theorem GSt.kp{X:List TypeId}(h:GSt w0 w b v zs len i)(hk:KpX X w w')(hx:71∉X)(hb:Below w0.heap.size w0 w'):GSt w0 w' b v zs len i:=⟨hk _ _ _ hx h.gb,hb,h.lo,h.ints⟩
end
theorem qAk(w0 w:World)(b:Nat)(v:Value)(zs:List Int)(len i:Nat)(m:Int)(h:GSt w0 w b v zs len i)(hi:i<=100000)(hm:0<m)(hm2:m<=1000000):
 Calls Tryd.prog 27 #[.pointer (some ⟨b,0,none⟩),.int .i64 m] w fun e w'=>e=.returned (.int .i64 (pkN zs len i m))/\GSt w0 w' b v zs len (i+1)/\qAg (fun k=>k=b) w w':=by
 have d0:w.cell? ⟨b,0,none⟩=some v:=h.cell 0;have d1:w.cell? ⟨b,1,none⟩=some (.int .i64 (i:Int)):=h.cell 1;have f1:w.frozen? ⟨b,1,none⟩=false:=h.frozen 1;obtain⟨hn,hno⟩:=h.next;obtain⟨w1,hw1⟩:=eX (w.setCell ⟨b,1,none⟩ (.int .i64 ((i:Int)+1)));have hw1':w.setCell ⟨b,1,none⟩ (.int .i64 ((i+1:Nat):Int))=w1:=hw1;rw[hw1']at hn hno;have hwr:IntKind.i64.wrap ((i:Int)+1)=(i:Int)+1:=IntWalk.i64_in _ (by omega);have hwr1:IntKind.i64.wrap (i:Int)=(i:Int):=IntWalk.i64_in _ (by omega);have c0:w1.cell? ⟨b,0,none⟩=some v:=hn.cell 0;have c1:w1.cell? ⟨b,1,none⟩=some (.int .i64 ((i:Int)+1)):=hn.cell 1;obtain⟨wd,hwd⟩:=eX w1.drew;have hBd:Below w1.heap.size w1 wd:=by rw[<-hwd];exact qAc _
 have HGd:=hZ (hn.below hBd);have HOd:=hZ (hno.trans (qAg.of_below hBd));have HC:=hZ (qGM v zs len i m wd HGd.o.at_ (by omega) hm (by omega));clear h hn hno hBd hw1'
 go_enter Tryd.func27,Tryd.ntmps27
 go_wp2_with fail
 clear hw1 d0 d1 f1;refine qAs [10,11] (fun W=>W.cell? ⟨b,0,none⟩=some v/\W.cell? ⟨b,1,none⟩=some (.int .i64 ((i:Int)+1))) (by kernel_rfl) (⟨c0,c1⟩) (fun hHeld=> ?_);rw[hwd]at hHeld ⊢;clear hwd c0 c1;refine pU 0 12 ?_;refine pU 1 13 ?_;refine pU 2 14 ?_;refine qAb 3 15 (v:= ?_) rfl rfl (by kernel_rfl) (by kernel_rfl) (by kernel_rfl) (by kernel_rfl) (by kernel_rfl) (fun _ _ _ h=>h) (by rfl) ?_ (by assumption) ?_;rotate_left
 ·(intro w hSw;go_simp;first|done|with_reducible rfl)
 simp only[sX1,sX2,sX3];refine pU 4 16 ?_;refine pU 5 17 ?_;refine pU 6 18 ?_;refine qAb 7 19 (v:= ?_) rfl rfl (by kernel_rfl) (by kernel_rfl) (by kernel_rfl) (by kernel_rfl) (by kernel_rfl) (fun _ _ _ h=>h) (by rfl) ?_ (by assumption) ?_;rotate_left
 ·(intro w hSw;go_simp;first|done|with_reducible rfl)
 simp only[sX1,sX2,sX3];refine pU 8 20 ?_;refine pU 9 21 ?_;refine lU 10 fun K hK=> ?_;go_simp;refine HC.o.mono ?_;rintro e w2 ⟨rfl,hw2⟩;subst hw2
 go_wp2_with fail
 refine hK.out _ _ ?_;clear hK K HC hHeld
 try simp only[Act.put,sX1,sX2,sX3]
 refine lU 11 fun K hK=> ?_;go_simp;refine hK.out _ _ ?_;clear hK K
 try simp only[Act.put,sX1,sX2,sX3]
 refine dU ?_
 go_wp2_with fail
 go_ret;exact⟨rfl,HGd.o,HOd.o⟩
theorem qB2{w w':World}{b k:Nat}{L:List Value}{t:TypeId}(ho:qAg (fun j=>j=b) (w.alloc (.cells L.toArray t)) w')(hb:b<w.heap.size):w'.cell? ⟨w.heap.size,k,none⟩=L[k]? :=by
 rw[ho.cell (p:=⟨w.heap.size,k,none⟩) (by show ¬w.heap.size=b;omega) (by simp)];rw[cell_of_row (w.alloc (.cells L.toArray t)) w.heap.size k L.toArray t (0,0) (heap_alloc_new w _)];simp
theorem qFO(w0 w:World)(b:Nat)(v:Value)(zs:List Int)(len i:Nat)(h:GSt w0 w b v zs len i)(hi:i<=100000):
 Calls Tryd.prog 54 #[.pointer (some ⟨b,0,none⟩)] w fun e w'=>e=.returned (.string ⟨(qDC (pkN zs len) i).toArray⟩)/\GSt w0 w' b v zs len (i+1)/\qAg (fun k=>k=b) w w':=by
 have hlt:=h.lt;obtain⟨W,hW⟩:=eX (w.alloc (.cells #[.string ⟨#[105,114,111,110]⟩,.string ⟨#[103,111,108,100]⟩,.string ⟨#[97,49]⟩,.string ⟨#[116,105,109,101]⟩,.string ⟨#[105,116,101,109]⟩,.string ⟨#[111,102]⟩,.string ⟨#[120,95,50]⟩,.string ⟨#[116,97,107,101]⟩] 9));have hB:Below w.heap.size w W:=by rw[<-hW];exact aR
 have HC:=hZ (qAk w0 W b v zs len i 8 (h.below hB) hi (by omega) (by omega));have hcl:∀w',qAg (fun j=>j=b) W w'->∀k,w'.cell? ⟨w.heap.size,k,none⟩=(qB4.map fun x=>Value.string ⟨x.toArray⟩)[k]? :=fun w' ho k=>by
  rw[<-hW]at ho;exact qB2 (L:=qB4.map fun x=>Value.string ⟨x.toArray⟩) ho hlt
 have Hcl:=hZ hcl;have HB:=hZ hB;clear hB hcl h
 go_enter Tryd.func54,Tryd.ntmps54
 go_wp2_with fail
 clear hW;refine HC.o.mono ?_;rintro e w1 ⟨rfl,hg,ho⟩;have hp:=qAw zs len i 8 (by omega);have Hr:Hid (qDC (pkN zs len) i=qB4.getD (pkN zs len i 8).toNat []):=hZ rfl;have HG:=hZ hg;have HO:=hZ ho;have hc:=Hcl.o w1 ho (pkN zs len i 8).toNat;clear hg ho Hcl HC;generalize pkN zs len i 8=x at hp hc Hr ⊢;have hx:(qB4.map fun x=>Value.string ⟨x.toArray⟩)[x.toNat]? =some (.string ⟨(qB4.getD x.toNat []).toArray⟩):=by
  have:x.toNat<qB4.length:=by show _<8;omega
  rw[List.getElem?_map,List.getElem?_eq_getElem this,List.getD_eq_getElem?_getD,List.getElem?_eq_getElem this];rfl
 rw[hx]at hc;clear hx;obtain⟨hx0,hx1⟩:=hp;obtain⟨s,hs⟩:=eX (qB4.getD x.toNat []);rw[hs]at hc Hr;clear hs
 go_wp2_with fail
 go_ret;exact⟨by rw[Hr.o];rfl,HG.o,(qAg.of_below HB.o).trans HO.o⟩
theorem GSt.behind{w0 w w':World}{b len i B:Nat}{v:Value}{zs:List Int}(h:GSt w0 w b v zs len i)(hlt:b<B)(hB:w0.heap.size<=B)(hb:Below B w w'):GSt w0 w' b v zs len i:=
 ⟨(hb.block b hlt).trans h.gb,h.bel.trans (hb.mono hB),h.lo,h.ints⟩
theorem GSt.size{w0 w:World}{b len i:Nat}{v:Value}{zs:List Int}(h:GSt w0 w b v zs len i):w0.heap.size<=w.heap.size:=h.bel.size
theorem qBD(w0 w:World)(b:Nat)(v:Value)(zs:List Int)(len i:Nat)(h:GSt w0 w b v zs len i)(hi:i<=90000):
 Calls Tryd.prog 55 #[.pointer (some ⟨b,0,none⟩)] w fun e w'=>(∃u,e=.returned u/\qAD 74 w' u (qBC (pkN zs len) i))/\GSt w0 w' b v zs len (qBm (pkN zs len) i)/\qAg (fun k=>k=b) w w':=by
 have HC:=hZ (qAk w0 w b v zs len i 4 h (by omega) (by omega) (by omega));obtain⟨c,hc,hcl,HL,HE⟩:∃c:Nat,pkN zs len i 4=(c:Int)/\c<=3/\Hid (qBC (pkN zs len) i=qB3 (pkN zs len) c (i+1))/\Hid (qBm (pkN zs len) i=i+1+2*c):=
  ⟨(pkN zs len i 4).toNat,by have:=qAw zs len i 4 (by omega);omega,by have:=qAw zs len i 4 (by omega);omega,hZ rfl,hZ rfl⟩
 rw[hc]at HC;rw[HL.o,HE.o];have hlt:=h.lt;have hsz:=h.size;clear h hc HL HE
 go_enter Tryd.func55,Tryd.ntmps55
 go_wp2_with fail
 refine HC.o.mono ?_;rintro e w1 ⟨rfl,hg,ho⟩;have HG0:=hZ hg;have HO0:=hZ ho;clear hg ho HC
 go_wp2_with fail
 go_loopw [3,4] (fun ov iv wr=>∃k j:Nat,∃acc:List Pr,k<=c/\iv=.int .i64 k/\j+2*k=i+1+2*c/\acc.length+k=c/\Hid (wr.ownsRow w.heap.size 74 3 ov acc.length (acc.flatMap prC))/\Hid (acc++qB3 (pkN zs len) k j=qB3 (pkN zs len) c (i+1))/\Hid (GSt w0 wr b v zs len j)/\Hid (qAg (fun k=>k=b) w wr)) (fun _ iv _=>(intOf iv).toNat)
 case atStart=>exact⟨c,i+1,[],by omega,rfl,rfl,by simp,hZ (World.ownsRow_nil _ _ _ _),hZ rfl,HG0,HO0⟩
 case round=>
  obtain⟨k,j,acc,hk,rfl,hj,hal,HO,HQ,HG,HY⟩:=hrel;cases k with
  |zero=>
   have hn0:¬(0:Int)<((0:Nat):Int):=by omega
   have hcc:acc.length=c:=by omega
   have HA:Hid (acc=qB3 (pkN zs len) c (i+1)):=hZ (by have:=HQ.o;rw[qB3,List.append_nil]at this;exact this);have hj':j=i+1+2*c:=by omega
   subst hj';clear HQ hj
   go_wp2_with fail
   go_ret;exact⟨⟨_,rfl,by rw[<-HA.o];exact qAD.of_own HO.o⟩,HG.o,HY.o⟩
  |succ k=>
   have hn0:(0:Int)<((k+1:Nat):Int):=by omega
   obtain⟨W,hW⟩:=eX (wr.alloc (.cells #[.int .i64 1,.int .i64 2,.int .i64 30,.int .i64 0,.int .i64 1099511627776] 3));have hB:Below wr.heap.size wr W:=by rw[<-hW];exact aR
   have HCr:=hZ (qAk w0 W b v zs len j 5 (HG.o.below hB) (by omega) (by omega) (by omega));have hblt:=HG.o.lt;have hcl2:∀w',qAg (fun j=>j=b) W w'->∀k,w'.cell? ⟨wr.heap.size,k,none⟩=(qDB.map fun x=>Value.int .i64 x)[k]? :=fun w' ho k=>by
    rw[<-hW]at ho;exact qB2 (L:=qDB.map fun x=>Value.int .i64 x) ho hblt
   have Hcl:=hZ hcl2;have HB:=hZ hB;clear hB hcl2 HG hblt
   go_wp2_with fail
   clear hW;refine HCr.o.mono ?_;rintro e w2 ⟨rfl,hg,ho⟩;have hp:=qAw zs len j 5 (by omega);have Hr:Hid (qJC (pkN zs len) j=qDB.getD (pkN zs len j 5).toNat 0):=hZ rfl;have HG2:=hZ hg;have HB2:=hZ ((qAg.of_below (S:=fun j=>j=b) HB.o).trans ho);have hcx:=Hcl.o w2 ho (pkN zs len j 5).toNat;clear hg ho Hcl HCr HB;generalize pkN zs len j 5=x at hp hcx Hr ⊢;have hx:(qDB.map fun x=>Value.int .i64 x)[x.toNat]? =some (.int .i64 (qDB.getD x.toNat 0)):=by
    have:x.toNat<qDB.length:=by show _<5;omega
    rw[List.getElem?_map,List.getElem?_eq_getElem this,List.getD_eq_getElem?_getD,List.getElem?_eq_getElem this];rfl
   rw[hx,<-Hr.o]at hcx;clear hx Hr;obtain⟨hx0,hx1⟩:=hp;obtain⟨nn,hnn⟩:=eX (qJC (pkN zs len) j);obtain⟨ns,hns⟩:=eX (qDC (pkN zs len) (j+1));have HT:Hid (qB3 (pkN zs len) (k+1) j=⟨nn,ns,0⟩::qB3 (pkN zs len) k (j+2)):=hZ (by rw[<-hnn,<-hns];rfl);have HCn:=hZ (qFO w0 w2 b v zs len (j+1) HG2.o (by omega));rw[hns]at HCn;rw[hnn]at hcx;clear hnn hns HG2
   go_wp2_with fail
   refine HCn.o.mono ?_;rintro e w3 ⟨rfl,hg,ho⟩;have HG3:=hZ hg;have HB3:=hZ (HB2.o.trans ho);clear hg ho HB2 HCn hcx;have HO3:=hZ (HB3.o.own HO.o (fun g e he=>by have:=(HO.o.lt g e).1;omega));have HY3:=hZ (HY.o.trans HB3.o);have hac:acc.length<=3:=by omega
   clear HO HB3 HY
   go_wp2_with (at_builtin;refine qA5 (W0:=w3) qGx rfl _ _ rfl (prC ⟨nn,ns,0⟩) 74 _ _ _ rfl rfl rfl (by simp[prC,Value.oneCell']) HO3.o (Below.refl _ _) HY3.o.size (by omega) (by omega) ?_)
   intro g5 cap5 w5 HO5 HB5 HW5 hcap5 hat5;have HY5:=hZ (HY3.o.behind HB5.o);have HG5:=hZ (HG3.o.behind hlt hsz HB5.o);have HQ5:Hid ((acc++[(⟨nn,ns,0⟩:Pr)])++qB3 (pkN zs len) k (j+2)=qB3 (pkN zs len) c (i+1)):=hZ (by rw[List.append_assoc,<-HQ.o,HT.o];rfl);have hal2:acc.length+1=(acc++[(⟨nn,ns,0⟩:Pr)]).length:=by simp
   have hfl:acc.flatMap prC++prC ⟨nn,ns,0⟩=(acc++[(⟨nn,ns,0⟩:Pr)]).flatMap prC:=by simp
   rw[hal2,hfl]at HO5;rw[hal2];have hal3:(acc++[(⟨nn,ns,0⟩:Pr)]).length+k=c:=by simp;omega
   obtain⟨acc',ha'⟩:∃acc',acc++[(⟨nn,ns,0⟩:Pr)]=acc':=⟨_,rfl⟩;rw[ha']at HO5 hal3 HQ5 ⊢;clear hal2 hfl ha' HO3 HY3 HG3 HB5 HW5 hat5 HQ HT
   go_wp2_with fail
   go_roundw
   case rel=>exact⟨k,j+2,acc',by omega,by go_num,by omega,hal3,HO5,HQ5,HG5,HY5⟩
   case measure=>simp[intOf]
end Go.Proofs.YtpmnbcdjoomgcaaDoor
