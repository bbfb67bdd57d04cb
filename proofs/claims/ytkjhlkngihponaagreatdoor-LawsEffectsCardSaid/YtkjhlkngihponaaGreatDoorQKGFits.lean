/- catalog.Valid at a good catalog: names, and all together. -/
import Derived.Test.YtkjhlkngihponaaGreatDoorQKRefWalks
import Derived.Test.YtkjhlkngihponaaGreatDoorQKShelf
import Derived.RegionTactic
import Derived.ChangeAlike
import Derived.OwnWalkIn
import Derived.TacticsInMore
import Derived.LoopNIn
import Derived.LoopIn
import Derived.Maps.AppendAt
set_option linter.unusedVariables false
set_option linter.unusedSimpArgs false
set_option maxHeartbeats 2000000
namespace Go.Proofs.YtkjhlkngihponaaGreatDoor
open Go.RowKit
def qAZ(w:World):Prop:=∀k,k<128->w.cell? ⟨2,k,none⟩=some (.int .u8 (kindsL.getD k 0))
theorem qAZ.lt{w:World}(h:qAZ w):2<w.heap.size:=World.block_lt_of_cell? w _ (h 0 (by omega))
theorem qAZ.below{w w':World}(h:qAZ w){B:Nat}(hb:Below B w w')(hB:2<B):qAZ w':=
 fun k hk=>(hb.cell (p:=⟨2,k,none⟩) hB).trans (h k hk)
def qEh(s:ByteArray)(k:Nat):Int:=if h:k<s.size then kd s[k]else 0
theorem qBX(s:ByteArray)(k:Nat)(h:k<s.size):qEh s k=kd s[k]:=by unfold qEh;rw[dif_pos h]
theorem qHJ(s:ByteArray)(k:Nat)(h:s.size<=k):qEh s k=0:=by unfold qEh;rw[dif_neg (by omega)]
theorem qAO(s:ByteArray)(k:Nat)(w:World)(_hs:s.size<=4611686018427387904)(_hk:k<=4611686018427387905)(hK:qAZ w):
 Calls Tryz.prog 216 #[.string s,.int .i64 k] w fun e w'=>e=.returned (.int .u8 (qEh s k))/\w=w':=by
 have HK:=hZ hK;clear hK;by_cases hlt:k<s.size
 ·have hE:=hZ (qBX s k hlt)
  by_cases h8:s[k].toNat<128
  ·have hc:=HK.o s[k].toNat h8
   have hf:Hid (kindsL.getD s[k].toNat 0=kd s[k]):=hZ (by unfold kd;rw[if_pos h8]);generalize kindsL.getD s[k].toNat 0=v at *
   go_enter Tryz.func216,Tryz.ntmps216
   go_wp2
   go_ret;exact⟨qAI (by rw[hE.o,<-hf.o]),rfl⟩
  ·have hf:Hid (0=kd s[k]):=hZ (by unfold kd;rw[if_neg h8])
   go_enter Tryz.func216,Tryz.ntmps216
   go_wp2
   go_ret;exact⟨qAI (by rw[hE.o,<-hf.o]),rfl⟩
 ·have hE:=hZ (qHJ s k (by omega))
  go_enter Tryz.func216,Tryz.ntmps216
  go_wp2
  go_ret;exact⟨qAI (by rw[hE.o]),rfl⟩
theorem qNo(s:ByteArray)(n:Nat)(a:Int)(ha:a=n)(w:World)(hs:s.size<=4611686018427387904)(hk:n<=4611686018427387905)(hK:qAZ w):
 Calls Tryz.prog 216 #[.string s,.int .i64 a] w fun e w'=>e=.returned (.int .u8 (qEh s n))/\w=w':=by
 subst ha;exact qAO s n w hs hk hK
theorem qKQ(c:UInt8):kd c=1 ↔ cl c=0:=by have:=qB0 c;rw[qJX];unfold qOr;omega
theorem qJW(c:UInt8):kd c=2 ↔ cl c=5:=by have:=qB0 c;rw[qJX];unfold qOr;omega
theorem qFZ(c:UInt8):kd c=3 ↔ cl c=1:=by have:=qB0 c;rw[qJX];unfold qOr;omega
theorem qFo(c:UInt8):kd c=4 ↔ cl c=2:=by have:=qB0 c;rw[qJX];unfold qOr;omega
theorem qOW(c:UInt8):kd c=5 ↔ cl c=3:=by have:=qB0 c;rw[qJX];unfold qOr;omega
theorem qKP(c:UInt8):kd c=6 ↔ cl c=6:=by have:=qB0 c;rw[qJX];unfold qOr;omega
theorem qIK(c:UInt8):kd c=7 ↔ cl c=4:=by have:=qB0 c;rw[qJX];unfold qOr;omega
def qCf(s:ByteArray)(k:Nat):Nat:=run (fun c=>c != 10) s k
theorem qEi:∀(l:Bs),Lib.indexByte l 10=if ((l.takeWhile (fun c=>c != 10)).length<l.length)then ((l.takeWhile (fun c=>c != 10)).length:Int)else -1
 |[]=>by simp[Lib.indexByte]
 |c::l=>by
  have ih:=qEi l;unfold Lib.indexByte;by_cases h:c=10
  ·subst h;simp
  ·have h1:(c==10)=false:=by simp[h]
   have h2:(c != 10)=true:=by simp[h]
   rw[List.takeWhile_cons];simp only[h1,h2,if_true,Bool.false_eq_true,if_false,List.length_cons];rw[ih];by_cases hl:(l.takeWhile (fun c=>c != 10)).length<l.length
   ·have hl':(l.takeWhile (fun c=>c != 10)).length+1<l.length+1:=by omega
    have hne:((((l.takeWhile (fun c=>c != 10)).length:Nat):Int)== -1)=false:=by rw[beq_eq_false_iff_ne];omega
    simp only[hl,hl',if_true,hne,Bool.false_eq_true,if_false];omega
   ·have hl':¬(l.takeWhile (fun c=>c != 10)).length+1<l.length+1:=by omega
    simp[hl]
def qOI(s:ByteArray)(k:Nat):Int:=if qCf s k<s.size then (qCf s k-k:Nat)else -1
theorem qRu(s:ByteArray)(k:Nat)(w:World)(hk:k<=s.size):
 Calls Tryz.prog 217 #[.string (s.extract k s.size),.int .u8 10] w fun e w'=>e=.returned (.int .i64 (qOI s k))/\w=w':=by
 refine(Tryz.strings_IndexByte (s.extract k s.size) 10 w).mono ?_;rintro e w' ⟨rfl,rfl⟩;refine⟨qAI ?_,rfl⟩;have hl:s.data.toList.length=s.size:=by simp
 have hd:(s.extract k s.size).data.toList=s.data.toList.drop k:=by
  rw[ByteArray.data_extract,Array.toList_extract,List.extract_eq_take_drop,List.take_of_length_le];rw[List.length_drop];omega
 rw[hd]
 show Lib.indexByte (s.data.toList.drop k) 10=_
 rw[qEi];unfold qOI qCf run;rw[List.length_drop,hl];have:=(List.takeWhile_sublist (fun c:UInt8=>c != 10) (l:=s.data.toList.drop k)).length_le;rw[List.length_drop,hl]at this
 split<;>split<;>omega
theorem qLv(s:ByteArray)(k:Nat)(h:k<s.size)(hb:cl s[k]=0):qDH s false k=qDH s false (k+1):=by
 unfold qDH;rw[qAF s k h,qOv _ _ hb]
theorem qLu(s:ByteArray)(k:Nat)(h:k<s.size)(h0:cl s[k]≠0)(h5:cl s[k]≠5):qDH s false k=k:=
 qDa s false k (by omega) (by rw[qAF s k h,qP5 _ _ h0 h5])
theorem qGJ(p:UInt8->Bool)(l:Bs):l.drop (l.takeWhile p).length=l.dropWhile p:=by
 induction l with
 |nil=>rfl
 |cons c l ih=>
  rw[List.takeWhile_cons,List.dropWhile_cons];by_cases h:p c=true
  ·rw[if_pos h,if_pos h,List.length_cons,List.drop_succ_cons];exact ih
  ·rw[if_neg h,if_neg h];rfl
theorem qPj(p:UInt8->Bool)(s:ByteArray)(k:Nat):s.data.toList.drop (run p s k)=(s.data.toList.drop k).dropWhile p:=by
 unfold run;rw[<-List.drop_drop,qGJ]
theorem qIi(s:ByteArray)(k:Nat)(h:k<s.size)(h5:cl s[k]=5):qDH s false k=qDH s false (qCf s k):=by
 have h10:s[k] != 10:=by
  have:=(qET s[k]).1.1 h5;simp only[bne_iff_ne,ne_eq];intro e;rw[e]at this;revert this;decide
 unfold qDH qCf;rw[qPj,qAF s k h,qP6 _ _ h5,qGX,List.dropWhile_cons,if_pos h10]
theorem qNj(s:ByteArray)(k:Nat)(h:k<s.size)(h5:cl s[k]=5):k<qCf s k:=by
 have h10:(s[k] != 10)=true:=by
  have:=(qET s[k]).1.1 h5;simp only[bne_iff_ne,ne_eq];intro e;rw[e]at this;revert this;decide
 unfold qCf;rw[qCL _ s k h h10];exact qRo _ _ _
theorem qKz(s:ByteArray)(k0:Nat)(w:World)(hs:s.size<=4611686018427387904)(hk0:k0<=s.size)(hK:qAZ w):
 Calls Tryz.prog 206 #[.string s,.int .i64 k0] w fun e w'=>e=.returned (.int .i64 (qDH s false k0))/\w=w':=by
 have HK:=hZ hK;clear hK
 go_enter Tryz.func206,Tryz.ntmps206
 go_wp2
 go_loop [1] (fun i=>∃(k:Nat),k<=s.size/\i=.int .i64 k/\Hid (qDH s false k=qDH s false k0)) (fun i=>s.size-(intOf i).toNat)
 case atStart=>exact⟨k0,hk0,rfl,rfl⟩
 case round=>
  obtain⟨k,hk,rfl,hI⟩:=hrel;by_cases hlt:k<s.size
  ·have hE:=hZ (qBX s k hlt)
   generalize hg:qEh s k=kk at *;have Hg:=hZ hg;clear hg;have hnl:qOI s k<=s.size-k:=by
    have:=qMG (fun c=>c != 10) s k hk;have h2:qCf s k=run (fun c=>c != 10) s k:=rfl;unfold qOI;split<;>omega
   have hn0:=hZ (rfl:qOI s k=qOI s k);generalize hn:qOI s k=nl at hnl;have Hn:=hZ hn;clear hn hn0
   go_wp2_with (first|(go_at_call 216;refine(qAO _ _ _ hs (by omega) HK.o).mono ?_;rw[Hg.o];rintro e w' ⟨rfl,rfl⟩)|(go_at_call 217;refine(qRu _ _ _ hk).mono ?_;rw[Hn.o];rintro e w' ⟨rfl,rfl⟩))
   ·have q:(kk==1)=true:=by assumption
    have hc:cl s[k]=0:=(qKQ _).1 (by rw[<-hE.o];simpa using q)
    go_round
    case rel=>exact⟨k+1,by omega,by go_num,hZ (by rw[<-qLv s k hlt hc,hI.o])⟩
    case measure=>simp[intOf];omega
   ·have q:(kk==2)=true:=by assumption
    have q2:nl<0:=by assumption
    have hc:cl s[k]=5:=(qJW _).1 (by rw[<-hE.o];simpa using q);go_ret;refine⟨qAI ?_,rfl⟩;rw[<-hI.o,qIi s k hlt hc];have h1:qCf s k<=s.size:=qMG _ s k hk;have h2:¬qCf s k<s.size:=by
     intro h;rw[<-Hn.o]at q2;unfold qOI at q2;rw[if_pos h]at q2;omega
    have h3:qCf s k=s.size:=by omega
    rw[h3,qDa s false s.size (Nat.le_refl _) (by rw[qCS s _ (Nat.le_refl _)];rfl)]
   ·have q:(kk==2)=true:=by assumption
    have q2:0<=nl:=by assumption
    have hc:cl s[k]=5:=(qJW _).1 (by rw[<-hE.o];simpa using q);have h1:qCf s k<=s.size:=qMG _ s k hk;have h0:=qNj s k hlt hc;have h2:nl=(qCf s k:Int)-k:=by
     rw[<-Hn.o]at q2 ⊢;unfold qOI at q2 ⊢;by_cases h:qCf s k<s.size
     ·rw[if_pos h];omega
     ·rw[if_neg h]at q2;omega
    go_round
    case rel=>exact⟨qCf s k,h1,by rw[h2];go_num,hZ (by rw[<-qIi s k hlt hc,hI.o])⟩
    case measure=>simp[intOf];omega
   ·have q1:(kk==1)=false:=by assumption
    have q2:(kk==2)=false:=by assumption
    have h0:cl s[k]≠0:=fun h=>by rw[<-qKQ,<-hE.o]at h;simp[h]at q1
    have h5:cl s[k]≠5:=fun h=>by rw[<-qJW,<-hE.o]at h;simp[h]at q2
    go_ret;exact⟨qAI (by rw[<-hI.o,qLu s k hlt h0 h5]),rfl⟩
  ·go_wp2
   go_ret;exact⟨qAI (by rw[<-hI.o,qDa s false k hk (by rw[qCS s k (by omega)];rfl)]),rfl⟩
def qAT(a:Int)(b:ByteArray)(c d:Int):Value:=.agg #[.int .i64 a,.string b,.int .i64 c,.int .i64 d]
def qDG(s:ByteArray)(k:Nat)(w:World)(e:Ending)(w':World):Prop:=
 Below w.heap.size w w'/\((∃er a b c,nx k (s.data.toList.drop k)=.error er/\e=.returned (.tuple #[qAT a b c k,.int .i64 er])/\(er=2\/er=4))\/
  (∃t,nx k (s.data.toList.drop k)=.ok t/\e=.returned (.tuple #[qAT t.kind ⟨t.text.toArray⟩ t.n k,.int .i64 0])))
theorem qBu(s:ByteArray)(k n:Nat):s.extract k (k+n)=⟨((s.data.toList.drop k).take n).toArray⟩:=by
 apply ByteArray.ext;rw[ByteArray.data_extract];apply Array.ext';rw[Array.toList_extract,List.extract_eq_take_drop];simp
theorem qFz(s:ByteArray)(k:Nat):tl (s.data.toList.drop k)=qAh s k-k:=by unfold qAh;omega
theorem qM0(s:ByteArray)(k:Nat)(hk:k<s.size)(h4:cl s[k]=4):nx k (s.data.toList.drop k)=.ok ⟨2,(s.data.toList.drop k).take 1,0,k⟩:=by
 have h1:tl (s.data.toList.drop k)=1:=by rw[qFz,qDg s k hk h4];omega
 rw[qAF s k hk]at h1 ⊢;unfold nx;simp only[h1,h4];rfl
theorem qJM(s:ByteArray)(k:Nat)(w:World)(hs:s.size<=4611686018427387904)(hk:k<s.size)(hK:qAZ w)(h4:Hid (cl s[k]=4)):
 Calls Tryz.prog 207 #[.string s,.int .i64 k] w (qDG s k w):=by
 have hkd:qEh s k=7:=by rw[qBX s k hk];exact(qIK _).2 h4.o
 have Hkd:=hZ hkd;have HK:=hZ hK;have hE:=hZ (qDg s k hk h4.o);clear hkd hK
 go_enter Tryz.func207,Tryz.ntmps207
 go_wp2_with (go_at_call 216;refine(qAO _ _ _ hs (by omega) (HK.o.below (B:=w.heap.size) (aR.alloc (by simp) _) HK.o.lt)).mono ?_;rw[Hkd.o];rintro e w' ⟨rfl,rfl⟩)
 refine bodyPost_ret (v:=.tuple #[qAT 2 (s.extract k (k+1)) 0 k,.int .i64 0]) (by simp[results,Tryz.results207,go_sem,qAT]) rfl ⟨aR.alloc (by simp) _,.inr ⟨_,qM0 s k hk h4.o,?_⟩⟩;rw[qBu]
theorem qRB(s:ByteArray)(k:Nat)(h:k<s.size):(qEh s k=3\/qEh s k=4\/qEh s k=5) ↔ wb s[k]=true:=by
 rw[qBX s k h,qFZ,qFo,qOW];have:=qB0 s[k];simp only[wb,Bool.and_eq_true,decide_eq_true_eq];omega
theorem qRC(s:ByteArray)(k:Nat)(h:k<s.size):qEh s k=4 ↔ db s[k]=true:=by
 rw[qBX s k h,qFo];simp[db]
theorem qHn(w:World)(n:Nat)(a:Addr)(v:Value):(w.drewN n).setCell a v=(w.setCell a v).drewN n:=rfl
theorem qKk(w:World)(n:Nat)(o:Obj):(w.drewN n).alloc o=(w.alloc o).drewN n:=rfl
attribute [local go_sem] qHn qKk
def qDZ(s:ByteArray)(k q:Nat):Nat:=dv 0 ((s.data.toList.drop k).take (q-k))
theorem qIU(s:ByteArray)(k:Nat):qDZ s k k=0:=by unfold qDZ;rw[Nat.sub_self];rfl
theorem qNQ(s:ByteArray)(k q:Nat)(h:k<=q)(hq:q<s.size):qDZ s k (q+1)=10*qDZ s k q+dg s[q]:=by
 unfold qDZ;have h1:q+1-k=(q-k)+1:=by omega
 have hl:s.data.toList.length=s.size:=by simp
 rw[h1,List.take_succ_eq_append_getElem (by rw[List.length_drop];omega),qNN]
 congr 2
 rw[List.getElem_drop];have:k+(q-k)=q:=by omega
 simp only[this];rfl
theorem qMH(p:UInt8->Bool)(s:ByteArray)(q:Nat)(hq:q<s.size):∀(d k:Nat),k+d=q->q<run p s k->p s[q]=true
 |0,k,hd,h=>by
  obtain rfl:k=q:=by omega
  cases hp:p s[k]with
  |true=>rfl
  |false=>rw[qCK p s k hq hp]at h;omega
 |d+1,k,hd,h=>by
  cases hp:p (s[k]'(by omega))with
  |true=>exact qMH p s q hq d (k+1) (by omega) (by rw[<-qCL p s k (by omega) hp];exact h)
  |false=>rw[qCK p s k (by omega) hp]at h;omega
theorem qPJ(s:ByteArray)(k q:Nat)(hk:k<s.size)(h2:cl s[k]=2)(hq:k<=q)(hr:q<run db s (k+1))(hqs:q<s.size):48<=s[q].toNat/\s[q].toNat<=57:=by
 have hr':q<run db s k:=by rw[qCL db s k hk (by simp[db,h2])];exact hr
 have:=qMH db s q hqs (q-k) k (by omega) hr';exact(qET _).2.2.2.1 (by simpa[db]using this)
theorem qNO:∀(l l':Bs) (n:Nat),dv n l<=dv n (l++l')
 |[],l',n=>by
  have:∀(l:Bs) (n:Nat),n<=dv n l:=by
   intro l
   induction l with
   |nil=>intro n;exact Nat.le_refl _
   |cons c l ih=>intro n;rw[qGd];have:=ih (10*n+dg c);omega
  exact this _ _
 |c::l,l',n=>by rw[List.cons_append,qGd,qGd];exact qNO l l' _
theorem qNR(s:ByteArray)(k a b:Nat)(h:a<=b):qDZ s k a<=qDZ s k b:=by
 unfold qDZ;have h1:a-k<=b-k:=by omega
 have h2:(s.data.toList.drop k).take (a-k)=((s.data.toList.drop k).take (b-k)).take (a-k):=by rw[List.take_take,Nat.min_eq_left h1]
 rw[h2]
 conv=>rhs;rw[<-List.take_append_drop (a-k) ((s.data.toList.drop k).take (b-k))]
 exact qNO _ _ _
theorem qFO(s:ByteArray)(k:Nat)(hk:k<s.size)(h2:cl s[k]=2):nx k (s.data.toList.drop k)=
 if qDZ s k (qAh s k)>1099511627776 then .error 4 else .ok ⟨1,(s.data.toList.drop k).take (qAh s k-k),qDZ s k (qAh s k),k⟩:=by
 have h0:tl (s.data.toList.drop k)≠0:=by rw[qAF s k hk,tl,if_neg (by omega),if_pos h2];omega
 unfold qDZ;rw[<-qFz];rw[qAF s k hk]at h0 ⊢;unfold nx;simp only[];rw[if_neg h0,if_neg (by omega),if_pos h2]
theorem qHB(s:ByteArray)(k q:Nat)(hk:k<s.size)(h2:cl s[k]=2)(_hq0:k<=q)(hq:q<qAh s k)(hN:qDZ s k (q+1)>1099511627776):nx k (s.data.toList.drop k)=.error 4:=by
 have:=qNR s k (q+1) (qAh s k) hq;rw[qFO s k hk h2,if_pos (by omega)]
theorem qM2(s:ByteArray)(k j:Nat)(hk:k<s.size)(h2:cl s[k]=2)(hj:qAh s k=j)(hN:qDZ s k j<=1099511627776):nx k (s.data.toList.drop k)=.ok ⟨1,(s.data.toList.drop k).take (j-k),qDZ s k j,k⟩:=by
 rw[qFO s k hk h2,hj,if_neg (by omega)]
theorem qJN(s:ByteArray)(k:Nat)(w:World)(hs:s.size<=4611686018427387904)(hk:k<s.size)(hK:qAZ w)(h2:Hid (cl s[k]=2)):
 Calls Tryz.prog 207 #[.string s,.int .i64 k] w (qDG s k w):=by
 have hkd:qEh s k=4:=by rw[qBX s k hk];exact(qFo _).2 h2.o
 have Hkd:=hZ hkd;have HK:=hZ hK;have hE:=hZ (qDh s k hk h2.o);clear hkd hK
 go_enter Tryz.func207,Tryz.ntmps207
 go_wp2_with (go_at_call 216;refine(qAO _ _ _ hs (by omega) (HK.o.below (B:=w.heap.size) (aR.alloc (by simp) _) HK.o.lt)).mono ?_;rw[Hkd.o];rintro e w' ⟨rfl,rfl⟩)
 go_loop [7] (fun i=>∃(j:Nat),k<j/\j<=s.size/\i=.int .i64 j/\Hid (run db s j=qAh s k)) (fun i=>s.size-(intOf i).toNat)
 case atStart=>exact⟨k+1,by omega,by omega,by go_num,hZ hE.o.symm⟩
 case round=>
  obtain⟨j,hj0,hj,rfl,hI⟩:=hrel;by_cases hm:qEh s j=4
  ·have Hm:=hZ hm
   have hjl:j<s.size:=by
    rcases Nat.lt_or_ge j s.size with h|h
    ·exact h
    ·rw[qHJ s j h]at hm;omega
   have hdb:=hZ ((qRC s j hjl).1 hm);clear hm
   go_wp2_with (go_at_call 216;refine(qAO _ _ _ hs (by omega) (HK.o.below (B:=w.heap.size) (aR.alloc (by simp) _) HK.o.lt)).mono ?_;rw[Hm.o];rintro e w' ⟨rfl,rfl⟩)
   go_round
   case rel=>exact⟨j+1,by omega,by omega,by go_num,hZ (by rw[<-qCL db s j hjl hdb.o,hI.o])⟩
   case measure=>simp[intOf];omega
  ·have hm':(qEh s j==4)=false:=by simp[hm]
   have hend:Hid (qAh s k=j):=hZ (by
    rw[<-hI.o];rcases Nat.lt_or_ge j s.size with h|h
    ·exact qCK db s j h (by rw[qRC s j h]at hm;simpa using hm)
    ·exact qHo db s j h)
   clear hm
   go_wp2_with (go_at_call 216;refine(qAO _ _ _ hs (by omega) (HK.o.below (B:=w.heap.size) (aR.alloc (by simp) _) HK.o.lt)).mono ?_;rintro e w' ⟨rfl,rfl⟩)
   go_loopw [9] (fun i wr=>∃(q m:Nat),k<=q/\q<=j/\i=.int .i64 q/\Hid (wr=((w.alloc (.cells #[.int .i64 0,.string ⟨#[]⟩,.int .i64 0,.int .i64 0] 195)).alloc (.cells #[.int .i64 1,.string ⟨#[]⟩,.int .i64 (qDZ s k q),.int .i64 k] 195)).drewN m)/\qDZ s k q<=1099511627776) (fun i _=>s.size-(intOf i).toNat)
   case atStart=>exact⟨k,0,Nat.le_refl _,by omega,rfl,hZ (by rw[qIU];rfl),by rw[qIU];omega⟩
   case round=>
    obtain⟨q,m,hq0,hq,rfl,hw,hN⟩:=hrel;have hw':=hw.o;subst hw';clear hw;by_cases hlt:q<j
    ·have hqs:q<s.size:=by omega
     have hd:=qPJ s k q hk h2.o hq0 (by rw[<-hE.o,hend.o];exact hlt) hqs;have hst:((qDZ s k q:Nat):Int)*10+((s[q].toNat:Nat)-48)%256=((qDZ s k (q+1):Nat):Int):=by
      rw[qNQ s k q hq0 hqs,qRL];omega
     have Hst:=hZ hst;clear hst hd
     go_wp2
     go_region
     rw[Hst.o];by_cases hbig:qDZ s k (q+1)<=1099511627776
     ·generalize hN':qDZ s k (q+1)=N' at *
      have HN':=hZ hN';clear hN'
      go_wp2
      go_roundw
      case rel=>exact⟨q+1,m+1,by omega,by omega,by go_num,hZ (by rw[HN'.o]),by rw[HN'.o];exact hbig⟩
      case measure=>simp[intOf];omega
     ·generalize hN':qDZ s k (q+1)=N' at *
      have HN':=hZ hN';clear hN'
      go_wp2
      have hnx:=qHB s k q hk h2.o hq0 (by rw[hend.o];exact hlt) (by rw[HN'.o];omega);refine bodyPost_ret (v:=.tuple #[qAT 1 ⟨#[]⟩ N' k,.int .i64 4]) (by simp[results,Tryz.results207,go_sem,qAT]) rfl ⟨below_drewN (aR.alloc (by simp) _) _,.inl ⟨4,_,_,_,hnx,rfl,.inr rfl⟩⟩
    ·obtain rfl:q=j:=by omega
     go_wp2
     have hnx:=qM2 s k q hk h2.o hend.o hN;refine bodyPost_ret (v:=.tuple #[qAT 1 (s.extract k q) (qDZ s k q) k,.int .i64 0]) (by simp[results,Tryz.results207,go_sem,qAT]) rfl ⟨below_drewN (aR.alloc (by simp) _) _,.inr ⟨_,hnx,?_⟩⟩;have:q=k+(q-k):=by omega
     conv=>lhs;rw[this,qBu]
     rw[<-this]
theorem qGZ(s:ByteArray)(k:Nat)(hk:k<s.size)(h1:cl s[k]=1):nx k (s.data.toList.drop k)=
 if qAh s k-k>16 then .error 4 else .ok ⟨0,(s.data.toList.drop k).take (qAh s k-k),0,k⟩:=by
 have h0:tl (s.data.toList.drop k)≠0:=by rw[qAF s k hk,tl,if_pos h1];omega
 rw[<-qFz];rw[qAF s k hk]at h0 ⊢;unfold nx;simp only[];rw[if_neg h0,if_pos h1]
theorem qHC(s:ByteArray)(k:Nat)(hk:k<s.size)(h:qAh s k=k):nx k (s.data.toList.drop k)=.error 2:=by
 have h0:tl (s.data.toList.drop k)=0:=by rw[qFz,h];omega
 rw[qAF s k hk]at h0 ⊢;unfold nx;simp only[];rw[if_pos h0]
theorem qOE(s:ByteArray)(k:Nat)(hk:k<s.size)(h6:cl s[k]=6)(h:qAh s k=k+2):nx k (s.data.toList.drop k)=.ok ⟨2,(s.data.toList.drop k).take 2,0,k⟩:=by
 have h0:tl (s.data.toList.drop k)=2:=by rw[qFz,h];omega
 rw[qAF s k hk]at h0 ⊢;unfold nx;simp only[h0];rw[if_neg (by omega),if_neg (by omega),if_neg (by omega)]
theorem qM4(s:ByteArray)(k:Nat)(w:World)(hs:s.size<=4611686018427387904)(hk:k<s.size)(hK:qAZ w)(h1:Hid (cl s[k]=1)):
 Calls Tryz.prog 207 #[.string s,.int .i64 k] w (qDG s k w):=by
 have hkd:qEh s k=3:=by rw[qBX s k hk];exact(qFZ _).2 h1.o
 have Hkd:=hZ hkd;have HK:=hZ hK;have hE:=hZ (qG5 s k hk h1.o);clear hkd hK
 go_enter Tryz.func207,Tryz.ntmps207
 go_wp2_with (go_at_call 216;refine(qAO _ _ _ hs (by omega) (HK.o.below (B:=w.heap.size) (aR.alloc (by simp) _) HK.o.lt)).mono ?_;rw[Hkd.o];rintro e w' ⟨rfl,rfl⟩)
 have hj1:((k:Int)+1)=((k+1:Nat):Int):=by omega
 rw[hj1];clear hj1
 go_wp2_with (go_at_call 216;refine(qAO _ _ _ hs (by omega) (HK.o.below (B:=w.heap.size) (aR.alloc (by simp) _) HK.o.lt)).mono ?_;rintro e w' ⟨rfl,rfl⟩)
 go_loop [7,8] (fun i c=>∃(j:Nat),k<j/\j<=s.size/\i=.int .i64 j/\c=.int .u8 (qEh s j)/\Hid (run wb s j=qAh s k)) (fun i _=>s.size-(intOf i).toNat)
 case atStart=>exact⟨k+1,by omega,by omega,by go_num,rfl,hZ hE.o.symm⟩
 case round=>
  obtain⟨j,hj0,hj,rfl,rfl,hI⟩:=hrel;by_cases hm:qEh s j=3\/qEh s j=4\/qEh s j=5
  ·have hjl:j<s.size:=by
    rcases Nat.lt_or_ge j s.size with h|h
    ·exact h
    ·rw[qHJ s j h]at hm;omega
   have hwb:=hZ ((qRB s j hjl).1 hm);have Hm:=hZ hm;clear hm;generalize qEh s j=kk at *;rcases Hm.o with h|h|h
   all_goals
    subst h;clear Hm
    go_wp2_with fail
    refine(qNo s (j+1) _ (by omega) _ hs (by omega) (HK.o.below (B:=w.heap.size) (aR.alloc (by simp) _) HK.o.lt)).mono ?_;rintro e w' ⟨rfl,rfl⟩
    go_wp2_with fail
    go_round
    case rel=>exact⟨j+1,by omega,by omega,by go_num,rfl,hZ (by rw[<-qCL wb s j hjl hwb.o,hI.o])⟩
    case measure=>simp[intOf];omega
  ·have hend:Hid (qAh s k=j):=hZ (by
    rw[<-hI.o];rcases Nat.lt_or_ge j s.size with h|h
    ·exact qCK wb s j h (by rw[qRB s j h]at hm;simpa using hm)
    ·exact qHo wb s j h)
   have q3:(qEh s j==3)=false:=by rw[beq_eq_false_iff_ne];exact fun e=>hm (.inl e)
   have q4:(qEh s j==4)=false:=by rw[beq_eq_false_iff_ne];exact fun e=>hm (.inr (.inl e))
   have q5:(qEh s j==5)=false:=by rw[beq_eq_false_iff_ne];exact fun e=>hm (.inr (.inr e))
   clear hm;have hnx:=hZ (qGZ s k hk h1.o);by_cases hbig:16<j-k
   ·go_wp2_with fail
    refine bodyPost_ret (v:=.tuple #[qAT 0 ⟨#[]⟩ 0 k,.int .i64 4]) (by simp[results,Tryz.results207,go_sem,qAT]) rfl ⟨aR.alloc (by simp) _,.inl ⟨4,_,_,_,by rw[hnx.o,hend.o,if_pos hbig],rfl,.inr rfl⟩⟩
   ·go_wp2_with fail
    refine bodyPost_ret (v:=.tuple #[qAT 0 (s.extract k j) 0 k,.int .i64 0]) (by simp[results,Tryz.results207,go_sem,qAT]) rfl ⟨aR.alloc (by simp) _,.inr ⟨⟨0,(s.data.toList.drop k).take (j-k),0,k⟩,by rw[hnx.o,hend.o,if_neg hbig],?_⟩⟩;have:j=k+(j-k):=by omega
    conv=>lhs;rw[this,qBu]
theorem qLC(s:ByteArray)(k:Nat)(w:World)(hs:s.size<=4611686018427387904)(hk:k<s.size)(hK:qAZ w)
 (h:Hid (cl s[k]≠1/\cl s[k]≠2/\cl s[k]≠4/\cl s[k]≠6)):
 Calls Tryz.prog 207 #[.string s,.int .i64 k] w (qDG s k w):=by
 have h3:(qEh s k==3)=false:=by rw[qBX s k hk,beq_eq_false_iff_ne];exact fun e=>h.o.1 ((qFZ _).1 e)
 have h4:(qEh s k==4)=false:=by rw[qBX s k hk,beq_eq_false_iff_ne];exact fun e=>h.o.2.1 ((qFo _).1 e)
 have h7:(qEh s k==7)=false:=by rw[qBX s k hk,beq_eq_false_iff_ne];exact fun e=>h.o.2.2.1 ((qIK _).1 e)
 have h6:(qEh s k==6)=false:=by rw[qBX s k hk,beq_eq_false_iff_ne];exact fun e=>h.o.2.2.2 ((qKP _).1 e)
 have HK:=hZ hK;have hE:=hZ (qF9 s k hk h.o.1 h.o.2.1 h.o.2.2.1 h.o.2.2.2);clear hK
 go_enter Tryz.func207,Tryz.ntmps207
 go_wp2_with (go_at_call 216;refine(qAO _ _ _ hs (by omega) (HK.o.below (B:=w.heap.size) (aR.alloc (by simp) _) HK.o.lt)).mono ?_;rintro e w' ⟨rfl,rfl⟩)
 refine bodyPost_ret (v:=.tuple #[qAT 0 ⟨#[]⟩ 0 k,.int .i64 2]) (by simp[results,Tryz.results207,go_sem,qAT]) rfl ⟨aR.alloc (by simp) _,.inl ⟨2,_,_,_,qHC s k hk hE.o,rfl,.inl rfl⟩⟩
theorem qLD(s:ByteArray)(k:Nat)(w:World)(hs:s.size<=4611686018427387904)(hk:k<s.size)(hK:qAZ w)(h6:Hid (cl s[k]=6)):
 Calls Tryz.prog 207 #[.string s,.int .i64 k] w (qDG s k w):=by
 have hkd:qEh s k=6:=by rw[qBX s k hk];exact(qKP _).2 h6.o
 have Hkd:=hZ hkd;have HK:=hZ hK;clear hkd hK;by_cases hlt:k+1<s.size
 ·by_cases hq:s[k+1].toNat=62
  ·have hE:=hZ (qGb s k hlt h6.o hq)
   have hq':((s[k+1].toNat:Int) != 62)=false:=by simp[hq]
   clear hq
   go_enter Tryz.func207,Tryz.ntmps207
   go_wp2_with (go_at_call 216;refine(qAO _ _ _ hs (by omega) (HK.o.below (B:=w.heap.size) (aR.alloc (by simp) _) HK.o.lt)).mono ?_;rw[Hkd.o];rintro e w' ⟨rfl,rfl⟩)
   refine bodyPost_ret (v:=.tuple #[qAT 2 (s.extract k (k+2)) 0 k,.int .i64 0]) (by simp[results,Tryz.results207,go_sem,qAT]) rfl ⟨aR.alloc (by simp) _,.inr ⟨_,qOE s k hk h6.o hE.o,?_⟩⟩;rw[qBu]
  ·have hE:=hZ (qGa s k hlt h6.o hq)
   have hq':((s[k+1].toNat:Int) != 62)=true:=by rw[bne_iff_ne];omega
   clear hq
   go_enter Tryz.func207,Tryz.ntmps207
   go_wp2_with (go_at_call 216;refine(qAO _ _ _ hs (by omega) (HK.o.below (B:=w.heap.size) (aR.alloc (by simp) _) HK.o.lt)).mono ?_;rw[Hkd.o];rintro e w' ⟨rfl,rfl⟩)
   refine bodyPost_ret (v:=.tuple #[qAT 2 ⟨#[]⟩ 0 k,.int .i64 2]) (by simp[results,Tryz.results207,go_sem,qAT]) rfl ⟨aR.alloc (by simp) _,.inl ⟨2,_,_,_,qHC s k hk hE.o,rfl,.inl rfl⟩⟩
 ·have hE:=hZ (qDi s k hk (by omega) h6.o)
  go_enter Tryz.func207,Tryz.ntmps207
  go_wp2_with (go_at_call 216;refine(qAO _ _ _ hs (by omega) (HK.o.below (B:=w.heap.size) (aR.alloc (by simp) _) HK.o.lt)).mono ?_;rw[Hkd.o];rintro e w' ⟨rfl,rfl⟩)
  refine bodyPost_ret (v:=.tuple #[qAT 2 ⟨#[]⟩ 0 k,.int .i64 2]) (by simp[results,Tryz.results207,go_sem,qAT]) rfl ⟨aR.alloc (by simp) _,.inl ⟨2,_,_,_,qHC s k hk hE.o,rfl,.inl rfl⟩⟩
theorem qOJ(s:ByteArray)(k:Nat)(w:World)(hs:s.size<=4611686018427387904)(hk:k<s.size)(hK:qAZ w):
 Calls Tryz.prog 207 #[.string s,.int .i64 k] w (qDG s k w):=by
 by_cases h1:cl s[k]=1
 ·exact qM4 s k w hs hk hK (hZ h1)
 ·by_cases h2:cl s[k]=2
  ·exact qJN s k w hs hk hK (hZ h2)
  ·by_cases h4:cl s[k]=4
   ·exact qJM s k w hs hk hK (hZ h4)
   ·by_cases h6:cl s[k]=6
    ·exact qLD s k w hs hk hK (hZ h6)
    ·exact qLC s k w hs hk hK (hZ ⟨h1,h2,h4,h6⟩)
open Go.RowKit Go.Shelf
attribute [local go_sem] Oper.semAt_some
def qRa(l bT:Nat)(R:Option Nat)(W W':World):Prop:=
 W.heap.size<=W'.heap.size/\∀k,k<W.heap.size->some k≠R->k≠l->k≠bT->W'.heap[k]? =W.heap[k]?
theorem qJc{W W':World}{k:Nat}(h:W'.heap[k]? =W.heap[k]?)(o:Nat):W'.cell? ⟨k,o,none⟩=W.cell? ⟨k,o,none⟩:=World.cell?_of_block (w:=W) h
def qPP(N:Nat)(ts:List Tok)(J:List Tok->Option Nat->World->Prop)(Jx:Nat->Int->World->Prop)(l:Bs)(W:World):Prop:=
 match lx N l with
 |.ok us=>∃R,J (ts++us) R W
 |.error (k,er)=>Jx k er W
theorem qFE(s:ByteArray)(k:Nat)(h:k<=s.size):s.size-(s.data.toList.drop k).length=k:=by
 have hl:s.data.toList.length=s.size:=by simp
 rw[List.length_drop];omega
theorem qKL(s:ByteArray)(k:Nat)(er:Int)(hlt:k<s.size)(hsk:sk false (s.data.toList.drop k)=s.data.toList.drop k)(hnx:nx k (s.data.toList.drop k)=.error er):
 lx s.size (s.data.toList.drop k)=.error (k,er):=by
 have hz:=qFE s k (by omega);rw[qLF,hsk];rw[qAF s k hlt]at hnx hz ⊢;simp only[];rw[hz,hnx]
theorem qRw(s:ByteArray)(k:Nat)(t:Tok)(hlt:k<s.size)(hsk:sk false (s.data.toList.drop k)=s.data.toList.drop k)(hnx:nx k (s.data.toList.drop k)=.ok t):
 lx s.size (s.data.toList.drop k)=match lx s.size (s.data.toList.drop (qAh s k))with
  |.error x=> .error x
  |.ok ts=> .ok (t::ts):=by
 have hz:=qFE s k (by omega);have he:s.data.toList.drop (qAh s k)=(s.data.toList.drop k).drop (tl (s.data.toList.drop k)):=by
  unfold qAh;rw[List.drop_drop]
 rw[he,qLF,hsk];rw[qAF s k hlt]at hnx hz ⊢;simp only[];rw[hz,hnx];rfl
theorem qEE(s:ByteArray)(k:Nat)(hk:k<=s.size):k<=qDH s false k:=by
 unfold qDH;have:=qIg false (s.data.toList.drop k);have h2:=qFE s k hk;omega
theorem qQ5(n:Nat)(hn:1<=n)(s:ByteArray)(hs:s.size<=4611686018427387904)(l bT bs n0:Nat)
 (J:List Tok->Option Nat->World->Prop)(Jx:Nat->Int->World->Prop)
 (hA:∀pre R W W',J pre R W->Below W.heap.size W W'->J pre R W')
 (hAx:∀k er W W',Jx k er W->Below W.heap.size W W'->Jx k er W')
 (hR:∀pre R W,J pre R W->(∀r,R=some r->n0<=r/\r<W.heap.size)/\n0<=W.heap.size/\qAZ W/\W.cell? ⟨bs,0,none⟩=some (.string s))
 (hb:bs<n0/\l<n0/\bT<n0)
 (hY:∀pre R t W,pre.length<s.size->J pre R W->YieldAt Fence.wide (n-1) Tryz.prog l #[qAT t.kind ⟨t.text.toArray⟩ t.n t.at_,.int .i64 0] W fun e W'=>
  e=.returned (.bool true)/\∃R',J (pre++[t]) R' W'/\qRa l bT R W W')
 (hYe:∀pre R a b c (k:Nat) er W,J pre R W->(er=2\/er=4)->YieldAt Fence.wide (n-1) Tryz.prog l #[qAT a b c k,.int .i64 er] W fun e W'=>
  e=.returned (.bool false)/\Jx k er W')
 (W:World)(h0:J [] none W):
 CallsIn Fence.wide n Tryz.prog 205 #[.func (.yield l) #[] #[],.pointer (some ⟨bs,0,none⟩)] W fun e W'=>(∃v,e=.returned v)/\qPP s.size [] J Jx s.data.toList W':=by
 have HA:=hZ hA;have HAx:=hZ hAx;have HR:=hZ hR;have HY:=hZ hY;have HYe:=hZ hYe;clear hA hAx hR hY hYe;obtain⟨hr0,hz0,hk0,hc0⟩:=HR.o _ _ _ h0;have Hk0:=hZ hk0;clear hk0 hr0;refine callsIn_of_wp Tryz.func205 rfl trivial ?_ rfl;simp only[Tryz.ntmps205,List.size_toArray,List.length_cons,List.length_nil,Nat.reduceAdd,Nat.reduceSub,Array.replicate_succ,Array.replicate_zero,List.push_toArray,List.append_toArray,List.nil_append,List.cons_append]
 gi_wp2_with (refine⟨trivial,?_⟩;gi_at_call 206;refine(callsIn_wide.2 (qKz s 0 _ hs (by omega) Hk0.o)).mono ?_;rintro e w' ⟨rfl,rfl⟩)
 gi_loopw [3] (fun i wr=>∃(k:Nat) (pre:List Tok) (R:Option Nat),k<=s.size/\pre.length<=k/\i=.int .i64 k/\Hid (J pre R wr)/\Hid (sk false (s.data.toList.drop k)=s.data.toList.drop k)/\Hid (∀W',qPP s.size pre J Jx (s.data.toList.drop k) W'->qPP s.size [] J Jx s.data.toList W')) (fun i _=>s.size-(intOf i).toNat)
 case atStart=>exact⟨qDH s false 0,[],none,qHl _ _ _,by simp,rfl,hZ h0,hZ (by rw[qBR,qED]),hZ (fun W' h=>by rw[qBR]at h;unfold qPP at h ⊢;rw[qHF]at h;exact h)⟩
 case round=>
  obtain⟨k,pre,R,hk,hpk,rfl,hJ,hsk,hE⟩:=hrel;obtain⟨hr1,hz1,hk1,hc1⟩:=HR.o _ _ _ hJ.o;have Hk1:=hZ hk1;have Hr1:=hZ hr1;clear hk1 hr1 hc0 hz0 h0;by_cases hlt:k<s.size
  ·gi_wp2_with fail
   refine⟨trivial,?_⟩;refine(callsIn_wide.2 (qOJ s k wr hs hlt Hk1.o)).mono ?_;rintro e w1 ⟨hB,⟨er,a,b,c,hnx,rfl,her⟩|⟨t,hnx,rfl⟩⟩
   ·have Hnx:=hZ hnx
    have HB:=hZ hB;clear hnx hB;have hJ1:Hid (J pre R (w1.alloc (.cells #[.int .i64 a,.string b,.int .i64 c,.int .i64 k] 195))):=hZ (HA.o _ _ _ _ hJ.o (HB.o.alloc HB.o.size _));obtain⟨fn,tmps,assign,body,hy,hR⟩:=HYe.o pre R a b c k er _ hJ1.o her;have HRy:=hZ hR;clear hR;unfold qAT at hy ⊢
    gi_wp2
    refine HRy.o.mono ?_;rintro e W3 ⟨rfl,hJx⟩
    gi_wp2
    refine bodyPost_ret (results_none rfl _ _ _) rfl ⟨⟨_,rfl⟩,hE.o _ ?_⟩;unfold qPP;rw[qKL s k er hlt hsk.o Hnx.o];exact hJx
   ·have Hnx:=hZ hnx
    obtain⟨h01,h02,h03⟩:=qM1 hnx;have Htx:=hZ h02;have HB:=hZ hB;clear hnx hB h02;have hJ1:Hid (J pre R (w1.alloc (.cells #[.int .i64 t.kind,.string ⟨t.text.toArray⟩,.int .i64 t.n,.int .i64 k] 195))):=hZ (HA.o _ _ _ _ hJ.o (HB.o.alloc HB.o.size _));obtain⟨fn,tmps,assign,body,hy,hR⟩:=HY.o pre R t _ (by omega) hJ1.o;rw[h03]at hy;clear h03;have HRy:=hZ hR;clear hR;have hw1:wr.heap.size<=w1.heap.size:=HB.o.size;unfold qAT at hy ⊢
    gi_wp2
    refine HRy.o.mono ?_;rintro e W3 ⟨rfl,R',hJ3,hK3⟩;have HJ3:=hZ hJ3;obtain⟨hr3,hz3,hk3,hc3⟩:=HR.o _ _ _ hJ3;have Hk3:=hZ hk3;have HK3:=hZ hK3;clear hJ3 hr3 hk3 hK3 hy HRy;have htl:t.text.length=tl (s.data.toList.drop k):=by
     rw[Htx.o,List.length_take];have:=qPY (s.data.toList.drop k);omega
    have hen:k+t.text.length=qAh s k:=by unfold qAh;omega
    have hle:qAh s k<=s.size:=by
     have:=qPY (s.data.toList.drop k);have hl:s.data.toList.length=s.size:=by simp
     rw[List.length_drop]at this;unfold qAh;omega
    have hgt:k<qAh s k:=by omega
    have hsz:t.text.length<=s.size:=by omega
    have Hen:=hZ hen;clear hen htl h01;have hcell:W3.cell? ⟨w1.heap.size,1,none⟩=some (.string ⟨t.text.toArray⟩):=by
     have hne:some w1.heap.size≠R:=by
      intro e;have:=Hr1.o _ e.symm;omega
     have:=HK3.o.2 w1.heap.size (by simp) hne (by omega) (by omega);rw[qJc this];simp
    gi_wp2_with fail
    refine⟨trivial,?_⟩;rw[show((k:Int)+(t.text.length:Nat))=((qAh s k:Nat):Int)from by rw[<-Hen.o];omega];refine(callsIn_wide.2 (qKz s (qAh s k) W3 hs hle Hk3.o)).mono ?_;rintro e w' ⟨rfl,rfl⟩
    gi_wp2
    go_roundw
    case rel=>
     refine⟨qDH s false (qAh s k),pre++[t],R',qHl _ _ _,by have:=qEE s (qAh s k) hle;simp;omega,rfl,HJ3,hZ (by rw[qBR,qED]),hZ (fun W' h=>hE.o _ ?_)⟩;rw[qBR]at h;unfold qPP at h ⊢;rw[qHF]at h;rw[qRw s k t hlt hsk.o Hnx.o];cases hx:lx s.size (s.data.toList.drop (qAh s k))with
     |error x=>rw[hx]at h;exact h
     |ok us=>rw[hx]at h;simpa using h
    case measure=>
     have:=qEE s (qAh s k) hle;simp[intOf];omega
  ·gi_wp2
   go_end0
   refine⟨⟨_,rfl⟩,hE.o _ ?_⟩;unfold qPP;rw[qCS s k (by omega)];exact⟨R,by simpa using hJ.o⟩
open Go.RowKit Go.Shelf
attribute [local go_sem] Oper.semAt_some
theorem qQ4(s:ByteArray)(w:World):
 Calls Tryz.prog 186 #[.string s] w fun e w'=>e=.returned (.func (.func 205) #[] #[.pointer (some ⟨w.heap.size,0,none⟩)])/\w'=w.alloc (.cells #[.string s] 9):=by
 go_enter Tryz.func186,Tryz.ntmps186
 go_wp2
 go_ret;exact⟨rfl,rfl⟩
def qCl(t:Tok):List Value:=[.int .i64 t.kind,.string ⟨t.text.toArray⟩,.int .i64 t.n,.int .i64 t.at_]
def qBJ(ts:List Tok):List Value:=ts.flatMap qCl
theorem qE8(ts:List Tok)(t:Tok):qBJ (ts++[t])=qBJ ts++qCl t:=by simp[qBJ]
def lxs(s:ByteArray):Except (Nat×Int) (List Tok):=if 8192<s.size then .error (0,4)else lx s.size s.data.toList
def qEV(E:TypeId)(s:ByteArray)(w:World)(e:Ending)(w':World):Prop:=
 Below w.heap.size w w'/\((∃ts v,lxs s=.ok ts/\ts.length<=s.size/\e=.returned (.tuple #[v,.int .i64 0,.int .i64 0])/\w'.ownsRow w.heap.size E 4 v ts.length (qBJ ts))\/
  (∃k er,lxs s=.error (k,er)/\e=.returned (.tuple #[.slice none 0 0,.int .i64 (k:Nat),.int .i64 er])/\(er=2\/er=4)))
theorem qJb(w:World)(l:List Value)(t:TypeId):∀j u,l[j]? =some u->(w.alloc (.cells l.toArray t)).cell? ((⟨w.heap.size,0,none⟩:Addr).add j)=some u:=by
 intro j u h;have hadd:(⟨w.heap.size,0,none⟩:Addr).add j=⟨w.heap.size,j,none⟩:=by unfold Addr.add;split<;>simp_all
 rw[hadd,cell_of_row _ w.heap.size j l.toArray t (0,0) (World.alloc_heap_new w _)];simpa using h
def Frm(Wb W:World)(ex:List Nat):Prop:=W.os=Wb.os/\W.tape=Wb.tape/\W.output=Wb.output/\Wb.heap.size<=W.heap.size/\∀k,k<Wb.heap.size->k∉ex->W.heap[k]? =Wb.heap[k]?
theorem Frm.below{Wb W W':World}{ex:List Nat}(h:Frm Wb W ex)(hb:Below W.heap.size W W'):Frm Wb W' ex:=
 ⟨hb.os.trans h.1,hb.tape.trans h.2.1,hb.output.trans h.2.2.1,Nat.le_trans h.2.2.2.1 hb.size,fun k hk hx=>(hb.block k (Nat.lt_of_lt_of_le hk h.2.2.2.1)).trans (h.2.2.2.2 k hk hx)⟩
theorem qLV(w:World)(a b c d e:Value)(ta tb tc td te:TypeId):
 Boxed (((((w.alloc (.cells #[a] ta)).alloc (.cells #[b] tb)).alloc (.cells #[c] tc)).alloc (.cells #[d] td)).alloc (.cells #[e] te)) w.heap.size ta a/\
 Boxed (((((w.alloc (.cells #[a] ta)).alloc (.cells #[b] tb)).alloc (.cells #[c] tc)).alloc (.cells #[d] td)).alloc (.cells #[e] te)) (w.heap.size+1) tb b/\
 Boxed (((((w.alloc (.cells #[a] ta)).alloc (.cells #[b] tb)).alloc (.cells #[c] tc)).alloc (.cells #[d] td)).alloc (.cells #[e] te)) (w.heap.size+2) tc c/\
 Boxed (((((w.alloc (.cells #[a] ta)).alloc (.cells #[b] tb)).alloc (.cells #[c] tc)).alloc (.cells #[d] td)).alloc (.cells #[e] te)) (w.heap.size+3) td d/\
 Boxed (((((w.alloc (.cells #[a] ta)).alloc (.cells #[b] tb)).alloc (.cells #[c] tc)).alloc (.cells #[d] td)).alloc (.cells #[e] te)) (w.heap.size+4) te e:=by
 have h1:=(((Boxed.new w ta a).alloc (.cells #[b] tb)).alloc (.cells #[c] tc)).alloc (.cells #[d] td);have h2:=((Boxed.new (w.alloc (.cells #[a] ta)) tb b).alloc (.cells #[c] tc)).alloc (.cells #[d] td);have h3:=(Boxed.new ((w.alloc (.cells #[a] ta)).alloc (.cells #[b] tb)) tc c).alloc (.cells #[d] td);have h4:=Boxed.new (((w.alloc (.cells #[a] ta)).alloc (.cells #[b] tb)).alloc (.cells #[c] tc)) td d;have h5:=Boxed.new ((((w.alloc (.cells #[a] ta)).alloc (.cells #[b] tb)).alloc (.cells #[c] tc)).alloc (.cells #[d] td)) te e;simp only[World.size_alloc,Nat.add_assoc,Nat.reduceAdd]at h2 h3 h4 h5;exact⟨h1.alloc _,h2.alloc _,h3.alloc _,h4.alloc _,h5⟩
theorem qQy:(Tryz.prog.info? 195).map (fun i=>(i.zero,i.size,i.bytes))=some (some (.agg #[.int .i64 0,.string ⟨#[]⟩,.int .i64 0,.int .i64 0]),4,40):=by kernel_rfl
def TJ(B:Nat)(rec:LoopState->Option Code->Loop)(Wb:World)(pre:List Tok)(R:Option Nat)(W:World):Prop:=
 Frm Wb W [B+3,B+6]/\W.heap[B+6]? =some (.loop (rec .ready none))/\∃v,Boxed W (B+3) 191 v/\W.ownsRow (B+7) 195 4 v pre.length (qBJ pre)/\R=v.ownBlock
theorem qFe{W W':World}(hb:Below W.heap.size W W')(row:Option Nat):W.grownBy W' row:=⟨hb.os,hb.tape,hb.output,hb.size,fun k hk _=>hb.block k hk⟩
theorem qHy{W W':World}{base e size n:Nat}{v:Value}{xs:List Value}(h:W.ownsRow base e size v n xs)(hb:Below W.heap.size W W'):W'.ownsRow base e size v n xs:=
 h.kept (qFe hb none) (by cases v.ownBlock<;>simp)
theorem TJ.below{B:Nat}{rec:LoopState->Option Code->Loop}{Wb:World}{pre:List Tok}{R:Option Nat}{W W':World}(h:TJ B rec Wb pre R W)(hb:Below W.heap.size W W'):TJ B rec Wb pre R W':=by
 obtain⟨hF,hl,v,hT,hrow,hR⟩:=h;exact⟨hF.below hb,(hb.block _ (Array.getElem?_eq_some_iff.1 hl).1).trans hl,v,(hb.block _ hT.lt).trans hT,qHy hrow hb,hR⟩
theorem qIw{W:World}{base base' e size n:Nat}{v:Value}{xs:List Value}(hb:base'<=base)(h:W.ownsRow base e size v n xs):W.ownsRow base' e size v n xs:=by
 refine⟨h.1,?_⟩;rcases h.2 with h|⟨g,cap,cur,hv,hb',rest⟩
 ·exact .inl h
 ·exact .inr ⟨g,cap,cur,hv,Nat.le_trans hb hb',rest⟩
theorem qFN{W:World}{base e size n:Nat}{v:Value}{xs:List Value}(h:W.ownsRow base e size v n xs){k:Nat}(hk:k<base):some k≠v.ownBlock:=by
 intro e;have:=(h.lt k e.symm).1;omega
theorem qAw(w:World)(a:Addr)(v:Value):(w.setCell a v).heap.size=w.heap.size:=by
 show(w.heap.modify _ _).size=_
 rw[Array.size_modify]
theorem qPZ(B:Nat)(rec:LoopState->Option Code->Loop)(Wb W W2 w1:World)(v v':Value)(pre:List Tok)(t:Tok)(C D:Obj)
 (hF:Frm Wb W [B+3,B+6])(hB:Wb.heap.size=B+7)(hW2:W2=(W.alloc C).putObj (B+6) (.loop (rec .busy none)))(hlW:B+6<W.heap.size)
 (hT:Boxed W2 (B+3) 191 v)(hrow:W2.ownsRow (B+7) 195 4 v pre.length (qBJ pre))
 (hg:(W2.alloc D).grownBy w1 v.ownBlock)(hown:w1.ownsRow (B+7) 195 4 v' (pre.length+1) (qBJ pre++qCl t)):
 (w1.setCell ⟨B+3,0,none⟩ v').heap[B+6]? =some (.loop (rec .busy none))/\
 TJ B rec Wb (pre++[t]) v'.ownBlock ((w1.setCell ⟨B+3,0,none⟩ v').putObj (B+6) (.loop (rec .ready none)))/\
 qRa (B+6) (B+3) v.ownBlock W ((w1.setCell ⟨B+3,0,none⟩ v').putObj (B+6) (.loop (rec .ready none))):=by
 have hz2:W2.heap.size=W.heap.size+1:=by rw[hW2];simp
 have hl2:W2.heap[B+6]? =some (.loop (rec .busy none)):=by rw[hW2];exact World.putObj_heap_same (by simp;omega)
 have hl3:(w1.setCell ⟨B+3,0,none⟩ v').heap[B+6]? =some (.loop (rec .busy none)):=
  (Below.heap_setCell _ _ _ _ (by show B+6≠B+3;omega)).trans ((hg.block _ (by simp;omega) (qFN hrow (by omega))).trans ((Below.heap_alloc _ _ _ (by omega)).trans hl2))
 have hkeep:∀k,k<W.heap.size->some k≠v.ownBlock->k≠B+6->k≠B+3->((w1.setCell ⟨B+3,0,none⟩ v').putObj (B+6) (.loop (rec .ready none))).heap[k]? =W.heap[k]? :=by
  intro k hk hne h6 h3;refine(World.putObj_heap_other h6).trans ((Below.heap_setCell _ _ _ _ (by show k≠B+3;omega)).trans ((hg.block _ (by simp;omega) hne).trans ((Below.heap_alloc _ _ _ (by omega)).trans ?_)));rw[hW2];exact(World.putObj_heap_other h6).trans (Below.heap_alloc _ _ _ hk)
 have hsz:W.heap.size<=((w1.setCell ⟨B+3,0,none⟩ v').putObj (B+6) (.loop (rec .ready none))).heap.size:=by
  have:=hg.size;simp only[World.size_alloc]at this;rw[World.putObj_size,qAw];omega
 have hv1:Boxed w1 (B+3) 191 v:=(hT.alloc D).kept hg (hT.not_row (by decide) hrow);refine⟨hl3,⟨⟨?_,?_,?_,?_,?_⟩,World.putObj_heap_same (by
  have:=hg.size;simp only[World.size_alloc]at this;rw[qAw];omega),v',?_,?_,rfl⟩,hsz,hkeep⟩
 ·exact hg.os.trans (by rw[hW2];exact hF.1)
 ·exact hg.tape.trans (by rw[hW2];exact hF.2.1)
 ·exact hg.output.trans (by rw[hW2];exact hF.2.2.1)
 ·exact Nat.le_trans hF.2.2.2.1 hsz
 ·intro k hk hx
  simp only[List.mem_cons,List.not_mem_nil,or_false,not_or]at hx;exact(hkeep k (by have:=hF.2.2.2.1;omega) (qFN hrow (by omega)) hx.2 hx.1).trans (hF.2.2.2.2 k hk (by simp;omega))
 ·exact(World.putObj_heap_other (by omega)).trans (hv1.set v')
 ·rw[qE8,List.length_append]
  exact ownsRow_putObj (hown.kept (grownBy_setCell' w1 (B+3) v') (.inr (hv1.not_row (by decide) hown).symm)) _ hl3 rfl
def TX(B:Nat)(rec:LoopState->Option Code->Loop)(Wb:World)(k:Nat)(er:Int)(W:World):Prop:=
 Frm Wb W [B+3,B+6,B,B+1,B+2]/\W.heap[B+6]? =some (.loop (rec .done (some .ret)))/\Boxed W B 191 (.slice none 0 0)/\Boxed W (B+1) 3 (.int .i64 k)/\Boxed W (B+2) 31 (.int .i64 er)
theorem TX.below{B:Nat}{rec:LoopState->Option Code->Loop}{Wb:World}{k:Nat}{er:Int}{W W':World}(h:TX B rec Wb k er W)(hb:Below W.heap.size W W'):TX B rec Wb k er W':=by
 obtain⟨hF,hl,e2,e3,e4⟩:=h;exact⟨hF.below hb,(hb.block _ (Array.getElem?_eq_some_iff.1 hl).1).trans hl,(hb.block _ e2.lt).trans e2,(hb.block _ e3.lt).trans e3,(hb.block _ e4.lt).trans e4⟩
theorem qDm(B:Nat)(rec:LoopState->Option Code->Loop)(Wb W W2 X:World)(k:Nat)(er:Int){C:Obj}(a:Act)
 (hF:Frm Wb W [B+3,B+6])(hB:Wb.heap.size=B+7)(hW2:W2=(W.alloc C).putObj (B+6) (.loop (rec .busy none)))(hlW:B+6<W.heap.size)
 (hs:X.os=W2.os/\X.tape=W2.tape/\X.output=W2.output)(hz:X.heap.size=W2.heap.size)
 (hX:∀k,k≠B->k≠B+1->k≠B+2->X.heap[k]? =W2.heap[k]?)
 (h2:Boxed X B 191 (.slice none 0 0))(h3:Boxed X (B+1) 3 (.int .i64 k))(h4:Boxed X (B+2) 31 (.int .i64 er)):
 qFJ (B+6) rec (fun e W'=>e=.returned (.bool false)/\TX B rec Wb k er W') .ret a X:=by
 have hz2:W2.heap.size=W.heap.size+1:=by rw[hW2];simp
 have hl2:W2.heap[B+6]? =some (.loop (rec .busy none)):=by rw[hW2];exact World.putObj_heap_same (by simp;omega)
 have hlX:X.heap[B+6]? =some (.loop (rec .busy none)):=(hX _ (by omega) (by omega) (by omega)).trans hl2;refine⟨hlX,rfl,⟨?_,?_,?_,?_,?_⟩,World.putObj_heap_same (by omega),?_,?_,?_⟩
 ·exact hs.1.trans (by rw[hW2];exact hF.1)
 ·exact hs.2.1.trans (by rw[hW2];exact hF.2.1)
 ·exact hs.2.2.trans (by rw[hW2];exact hF.2.2.1)
 ·have:=hF.2.2.2.1
  rw[World.putObj_size];omega
 ·intro j hj hx
  simp only[List.mem_cons,List.not_mem_nil,or_false,not_or]at hx;refine(World.putObj_heap_other hx.2.1).trans ((hX _ hx.2.2.1 hx.2.2.2.1 hx.2.2.2.2).trans ?_);rw[hW2];exact(World.putObj_heap_other hx.2.1).trans ((Below.heap_alloc _ _ _ (by have:=hF.2.2.2.1;omega)).trans (hF.2.2.2.2 j hj (by simp;omega)))
 ·exact(World.putObj_heap_other (by omega)).trans h2
 ·exact(World.putObj_heap_other (by omega)).trans h3
 ·exact(World.putObj_heap_other (by omega)).trans h4
theorem qPW(B:Nat)(rec:LoopState->Option Code->Loop)(Wb W W2:World)(x1 x2 x3:Nat)(u1 u2 u3:Value)(k:Nat)(er:Int){C:Obj}(a:Act)
 (hF:Frm Wb W [B+3,B+6])(hB:Wb.heap.size=B+7)(hW2:W2=(W.alloc C).putObj (B+6) (.loop (rec .busy none)))(hlW:B+6<W.heap.size)
 (h2:Boxed W2 B 191 (.slice none 0 0))(h3:Boxed W2 (B+1) 3 (.int .i64 0))(h4:Boxed W2 (B+2) 31 (.int .i64 0))
 (hp:(x1=B/\u1=.slice none 0 0/\x2=B+1/\u2=.int .i64 k/\x3=B+2/\u3=.int .i64 er)\/
  (x1=B/\u1=.slice none 0 0/\x3=B+1/\u3=.int .i64 k/\x2=B+2/\u2=.int .i64 er)\/
  (x2=B/\u2=.slice none 0 0/\x1=B+1/\u1=.int .i64 k/\x3=B+2/\u3=.int .i64 er)\/
  (x2=B/\u2=.slice none 0 0/\x3=B+1/\u3=.int .i64 k/\x1=B+2/\u1=.int .i64 er)\/
  (x3=B/\u3=.slice none 0 0/\x1=B+1/\u1=.int .i64 k/\x2=B+2/\u2=.int .i64 er)\/
  (x3=B/\u3=.slice none 0 0/\x2=B+1/\u2=.int .i64 k/\x1=B+2/\u1=.int .i64 er)):
 qFJ (B+6) rec (fun e W'=>e=.returned (.bool false)/\TX B rec Wb k er W') .ret a ((((W2.setCell ⟨x1,0,none⟩ u1).setCell ⟨x2,0,none⟩ u2).setCell ⟨x3,0,none⟩ u3).drew):=by
 have hz:((((W2.setCell ⟨x1,0,none⟩ u1).setCell ⟨x2,0,none⟩ u2).setCell ⟨x3,0,none⟩ u3).drew).heap.size=W2.heap.size:=by
  show(((W2.setCell ⟨x1,0,none⟩ u1).setCell ⟨x2,0,none⟩ u2).setCell ⟨x3,0,none⟩ u3).heap.size=_
  rw[qAw,qAw,qAw]
 have hX:∀k,k≠x1->k≠x2->k≠x3->((((W2.setCell ⟨x1,0,none⟩ u1).setCell ⟨x2,0,none⟩ u2).setCell ⟨x3,0,none⟩ u3).drew).heap[k]? =W2.heap[k]? :=by
  intro k e1 e2 e3
  show(((W2.setCell ⟨x1,0,none⟩ u1).setCell ⟨x2,0,none⟩ u2).setCell ⟨x3,0,none⟩ u3).heap[k]? =_
  exact(Below.heap_setCell _ ⟨x3,0,none⟩ _ _ e3).trans ((Below.heap_setCell _ ⟨x2,0,none⟩ _ _ e2).trans (Below.heap_setCell _ ⟨x1,0,none⟩ _ _ e1))
 rcases hp with ⟨rfl,rfl,rfl,rfl,rfl,rfl⟩|⟨rfl,rfl,rfl,rfl,rfl,rfl⟩|⟨rfl,rfl,rfl,rfl,rfl,rfl⟩|⟨rfl,rfl,rfl,rfl,rfl,rfl⟩|⟨rfl,rfl,rfl,rfl,rfl,rfl⟩|⟨rfl,rfl,rfl,rfl,rfl,rfl⟩
 ·exact qDm _ rec Wb W W2 _ k er a hF hB hW2 hlW ⟨rfl,rfl,rfl⟩ hz (fun k e1 e2 e3=>hX k e1 e2 e3) (((h2.set _).other (by omega) _).other (by omega) _) (((h3.other (by omega) _).set _).other (by omega) _) (((h4.other (by omega) _).other (by omega) _).set _)
 ·exact qDm _ rec Wb W W2 _ k er a hF hB hW2 hlW ⟨rfl,rfl,rfl⟩ hz (fun k e1 e2 e3=>hX k e1 e3 e2) (((h2.set _).other (by omega) _).other (by omega) _) (((h3.other (by omega) _).other (by omega) _).set _) (((h4.other (by omega) _).set _).other (by omega) _)
 ·exact qDm _ rec Wb W W2 _ k er a hF hB hW2 hlW ⟨rfl,rfl,rfl⟩ hz (fun k e1 e2 e3=>hX k e2 e1 e3) (((h2.other (by omega) _).set _).other (by omega) _) (((h3.set _).other (by omega) _).other (by omega) _) (((h4.other (by omega) _).other (by omega) _).set _)
 ·exact qDm _ rec Wb W W2 _ k er a hF hB hW2 hlW ⟨rfl,rfl,rfl⟩ hz (fun k e1 e2 e3=>hX k e3 e1 e2) (((h2.other (by omega) _).set _).other (by omega) _) (((h3.other (by omega) _).other (by omega) _).set _) (((h4.set _).other (by omega) _).other (by omega) _)
 ·exact qDm _ rec Wb W W2 _ k er a hF hB hW2 hlW ⟨rfl,rfl,rfl⟩ hz (fun k e1 e2 e3=>hX k e2 e3 e1) (((h2.other (by omega) _).other (by omega) _).set _) (((h3.set _).other (by omega) _).other (by omega) _) (((h4.other (by omega) _).set _).other (by omega) _)
 ·exact qDm _ rec Wb W W2 _ k er a hF hB hW2 hlW ⟨rfl,rfl,rfl⟩ hz (fun k e1 e2 e3=>hX k e3 e2 e1) (((h2.other (by omega) _).other (by omega) _).set _) (((h3.other (by omega) _).set _).other (by omega) _) (((h4.set _).other (by omega) _).other (by omega) _)
theorem qMp(s:ByteArray)(w:World)(hs:s.size<=8192)(hK:qAZ w):
 CallsIn Fence.wide 5 Tryz.prog 149 #[.string s] w (qEV 195 s w):=by
 have HK:=hZ hK;clear hK;refine callsIn_of_wp_marks Tryz.func149 rfl trivial ?_ rfl;simp only[Tryz.ntmps149,List.size_toArray,List.length_cons,List.length_nil,Nat.reduceAdd,Nat.reduceSub,Array.replicate_succ,Array.replicate_zero,List.push_toArray,List.append_toArray,List.nil_append,List.cons_append]
 gi_wp2_with (refine⟨trivial,?_⟩;gi_at_call 186;refine(callsIn_wide.2 (qQ4 _ _)).mono ?_;rintro e w' ⟨rfl,rfl⟩)
 obtain⟨w0,hw0⟩:∃w0,(((((w.alloc (Obj.cells #[Value.slice none 0 0] 191)).alloc (Obj.cells #[Value.int IntKind.i64 0] 3)).alloc
  (Obj.cells #[Value.int IntKind.i64 0] 31)).alloc
  (Obj.cells #[Value.slice none 0 0] 191)).alloc
  (Obj.cells #[Value.string s] 9))=w0:=⟨_,rfl⟩
 rw[hw0];have hz0:w0.heap.size=w.heap.size+5:=by rw[<-hw0];simp
 refine qDr rfl (by omega) (gf:=205) (lb:=#[.pointer (some ⟨w.heap.size+1+1+1+1,0,none⟩)]) rfl trivial (enters_of Tryz.func205 (by kernel_rfl) rfl) ?_;intro fn _;generalize hrec:qEF fn _ _ _ _ _=rec;obtain⟨Wb,hWb⟩:=eX ((w0.alloc (.deferred (some []))).alloc (.loop (rec .ready none)));rw[hWb];have hzb:Wb.heap.size=w.heap.size+7:=by rw[<-hWb];simp[hz0]
 have hJ0:Frm Wb Wb [w.heap.size+3,w.heap.size+6]:=⟨rfl,rfl,rfl,Nat.le_refl _,fun _ _ _=>rfl⟩;have hlb:Wb.heap[w.heap.size+6]? =some (.loop (rec .ready none)):=by
  rw[<-hWb];have:=World.alloc_heap_new (w0.alloc (.deferred (some []))) (.loop (rec .ready none));rw[World.size_alloc,hz0]at this;exact this
 have hDb:Wb.heap[w.heap.size+5]? =some (.deferred (some [])):=by
  rw[<-hWb];have:=World.alloc_heap_new w0 (.deferred (some []));rw[hz0]at this;exact(Below.heap_alloc _ _ _ (by simp[hz0])).trans this
 have hold:∀k,k<w.heap.size+5->Wb.heap[k]? =w0.heap[k]? :=by
  intro k hk;rw[<-hWb];exact(Below.heap_alloc _ _ _ (by simp[hz0];omega)).trans (Below.heap_alloc _ _ _ (by omega))
 obtain⟨h2b,h3b,h4b,hTb,hsb⟩:Boxed Wb w.heap.size 191 (.slice none 0 0)/\Boxed Wb (w.heap.size+1) 3 (.int .i64 0)/\Boxed Wb (w.heap.size+2) 31 (.int .i64 0)/\Boxed Wb (w.heap.size+3) 191 (.slice none 0 0)/\Boxed Wb (w.heap.size+4) 9 (.string s):=by
  have h5:=qLV w (.slice none 0 0) (.int .i64 0) (.int .i64 0) (.slice none 0 0) (.string s) 191 3 31 191 9;rw[hw0]at h5;exact⟨(hold _ (by omega)).trans h5.1,(hold _ (by omega)).trans h5.2.1,(hold _ (by omega)).trans h5.2.2.1,(hold _ (by omega)).trans h5.2.2.2.1,(hold _ (by omega)).trans h5.2.2.2.2⟩
 have hwb:∀k,k<w.heap.size->Wb.heap[k]? =w.heap[k]? :=by
  intro k hk;rw[hold _ (by omega),<-hw0];exact(((((((Below.refl w.heap.size w).alloc (Nat.le_refl _) _).alloc (by simp) _).alloc (by simp;omega) _).alloc (by simp;omega) _).alloc (by simp;omega) _)).block k hk
 have hY:∀pre R t W,pre.length<s.size->TJ w.heap.size rec Wb pre R W->YieldAt Fence.wide (4-1) Tryz.prog (w.heap.size+6) #[qAT t.kind ⟨t.text.toArray⟩ t.n t.at_,.int .i64 0] W fun e W'=>
  e=.returned (.bool true)/\∃R',TJ w.heap.size rec Wb (pre++[t]) R' W'/\qRa (w.heap.size+6) (w.heap.size+3) R W W':=by
  rintro pre R t W hlen ⟨hF,hl,v,hT,hrow,rfl⟩;rw[<-hrec]at hl;refine qB8 trivial hl rfl ?_;rw[hrec]at hl ⊢;unfold qAT
  gi_wp2
  have hlW:w.heap.size+6<W.heap.size:=(Array.getElem?_eq_some_iff.1 hl).1;refine⟨(Below.heap_alloc _ _ _ hlW).trans hl,?_⟩;obtain⟨W2,hW2⟩:=eX (((W.alloc (.cells #[.int .i64 t.kind,.string ⟨t.text.toArray⟩,.int .i64 t.n,.int .i64 t.at_] 195)).putObj (w.heap.size+6) (.loop (rec .busy none))));rw[hW2];have hz2:W2.heap.size=W.heap.size+1:=by rw[<-hW2];simp
  have hl2:W2.heap[w.heap.size+6]? =some (.loop (rec .busy none)):=by rw[<-hW2];exact World.putObj_heap_same (by simp;omega)
  have hF2:∀k,k<W.heap.size->k≠w.heap.size+6->W2.heap[k]? =W.heap[k]? :=by
   intro k hk hne;rw[<-hW2];exact(World.putObj_heap_other hne).trans (Below.heap_alloc _ _ _ hk)
  have hc2:W2.heap[W.heap.size]? =some (.cells #[.int .i64 t.kind,.string ⟨t.text.toArray⟩,.int .i64 t.n,.int .i64 t.at_] 195 (0,0)):=by
   rw[<-hW2];exact(World.putObj_heap_other (by omega)).trans (World.alloc_heap_new _ _)
  have hT2:Boxed W2 (w.heap.size+3) 191 v:=(hF2 _ (by have:=hT.lt;omega) (by omega)).trans hT;have hrow2:W2.ownsRow (w.heap.size+7) 195 4 v pre.length (qBJ pre):=by
   rw[<-hW2];exact ownsRow_putObj (hrow.alloc _) _ ((Below.heap_alloc _ _ _ hlW).trans hl) rfl
  have q0:=(cell_of_row W2 W.heap.size 0 _ _ _ hc2);have q1:=(cell_of_row W2 W.heap.size 1 _ _ _ hc2);have q2:=(cell_of_row W2 W.heap.size 2 _ _ _ hc2);have q3:=(cell_of_row W2 W.heap.size 3 _ _ _ hc2);have qT:=hT2.cell;simp at q0 q1 q2 q3;have HF2:=hZ hF2;have Hc2:=hZ hc2;have HT2:=hZ hT2;have Hl2:=hZ hl2;have Hz2:=hZ hz2;have Hrow:=hZ hrow;have HT:=hZ hT;have HF:=hZ hF;have HW2:=hZ hW2.symm;have hT2':=hZ hT2;clear hF2 hc2 hT2 hl2 hW2 hrow hT hF hl hz2;obtain⟨i0,hi,hz0',hz1,hz2'⟩:=info_parts qQy
  gi_wp2_with (gi_at_builtin;refine wpListIn_append_own _ rfl _ _ 191 rfl (w.heap.size+7) 195 i0 (.agg #[.int .i64 0,.string ⟨#[]⟩,.int .i64 0,.int .i64 0]) 4 40 Tryz.underlying191 hi hz0' hz1 hz2' rfl (by decide) _ _ _ rfl (hrow2.alloc _) ⟨W2.heap.size,0,none⟩ 1 1 (qCl t) rfl rfl (qJb _ (qCl t) _) (by simp[Value.oneCell',qCl]) (by unfold maxLen;omega) (by omega) (by have:=Hz2.o;simp;omega) ?_;intro v' w1 hown' hgrow _;obtain⟨g',cap',rfl⟩:=ownsRow_succ hown';have hv1:=(HT2.o.alloc (.cells (qCl t).toArray 195)).kept hgrow (HT2.o.not_row (by decide) hrow2);have hc1:=hv1.cell;have hf1:=hv1.frozen;have Hv1:=hZ hv1;have Hgrow:=hZ hgrow;have Hown:=hZ hown';clear hv1 hgrow hown')
  have hgr:(W2.alloc (.cells (qCl t).toArray 195)).grownBy w1 v.ownBlock:=Hgrow.o;obtain⟨r1,r2,r3⟩:=qPZ w.heap.size rec Wb W W2 w1 v _ pre t _ _ HF.o hzb HW2.o hlW hT2'.o hrow2 hgr Hown.o;exact⟨r1,rfl,⟨_,r2⟩,r3⟩
 have hYe:∀pre R a b c (k:Nat) er W,TJ w.heap.size rec Wb pre R W->(er=2\/er=4)->YieldAt Fence.wide (4-1) Tryz.prog (w.heap.size+6) #[qAT a b c k,.int .i64 er] W fun e W'=>
  e=.returned (.bool false)/\TX w.heap.size rec Wb k er W':=by
  rintro pre R a b c k er W ⟨hF,hl,v,hT,hrow,rfl⟩ her;rw[<-hrec]at hl;refine qB8 trivial hl rfl ?_;rw[hrec]at hl ⊢;unfold qAT
  gi_wp2
  have hlW:w.heap.size+6<W.heap.size:=(Array.getElem?_eq_some_iff.1 hl).1;refine⟨(Below.heap_alloc _ _ _ hlW).trans hl,?_⟩;obtain⟨W2,hW2⟩:=eX (((W.alloc (.cells #[.int .i64 a,.string b,.int .i64 c,.int .i64 k] 195)).putObj (w.heap.size+6) (.loop (rec .busy none))));rw[hW2];have hz2:W2.heap.size=W.heap.size+1:=by rw[<-hW2];simp
  have hl2:W2.heap[w.heap.size+6]? =some (.loop (rec .busy none)):=by rw[<-hW2];exact World.putObj_heap_same (by simp;omega)
  have hF2:∀k,k<W.heap.size->k≠w.heap.size+6->W2.heap[k]? =W.heap[k]? :=by
   intro k hk hne;rw[<-hW2];exact(World.putObj_heap_other hne).trans (Below.heap_alloc _ _ _ hk)
  have hc2:W2.heap[W.heap.size]? =some (.cells #[.int .i64 a,.string b,.int .i64 c,.int .i64 k] 195 (0,0)):=by
   rw[<-hW2];exact(World.putObj_heap_other (by omega)).trans (World.alloc_heap_new _ _)
  have e2:Boxed W2 w.heap.size 191 (.slice none 0 0):=(hF2 _ (by omega) (by omega)).trans ((hF.2.2.2.2 _ (by omega) (by simp)).trans h2b);have e3:Boxed W2 (w.heap.size+1) 3 (.int .i64 0):=(hF2 _ (by omega) (by omega)).trans ((hF.2.2.2.2 _ (by omega) (by simp)).trans h3b);have e4:Boxed W2 (w.heap.size+2) 31 (.int .i64 0):=(hF2 _ (by omega) (by omega)).trans ((hF.2.2.2.2 _ (by omega) (by simp)).trans h4b);have q3:=(cell_of_row W2 W.heap.size 3 _ _ _ hc2);have c2:=e2.cell;have c3:=e3.cell;have c4:=e4.cell;have f2:=e2.frozen;have f3:=e3.frozen;have f4:=e4.frozen;have hne:((er:Int) != 0)=true:=by rw[bne_iff_ne];omega
  simp at q3;have HF:=hZ hF;have He2:=hZ e2;have He3:=hZ e3;have He4:=hZ e4;have HF2:=hZ hF2;have Hl2:=hZ hl2;have Hz2:=hZ hz2;have HW2:=hZ hW2.symm;clear hF2 hc2 hl2 hW2 hrow hT hF hl hz2 e2 e3 e4 her
  gi_wp2
  gi_region
  all_goals gi_wp2
  all_goals
   refine qPW w.heap.size rec Wb W W2 _ _ _ _ _ _ k er _ HF.o hzb HW2.o hlW He2.o He3.o He4.o ?_;simp
 have hnow:=qQ5 4 (by omega) s (by omega) (w.heap.size+6) (w.heap.size+3) (w.heap.size+4) (w.heap.size+7) (TJ w.heap.size rec Wb) (TX w.heap.size rec Wb)
  (fun _ _ _ _ h hb=>h.below hb) (fun _ _ _ _ h hb=>h.below hb) ?hR (by omega) hY hYe Wb ⟨hJ0,hlb,_,hTb,World.ownsRow_nil _ _ _ _,rfl⟩
 case hR=>
  rintro pre R W ⟨hF,hl,v,hT,hrow,rfl⟩;have hWb2:∀k,k<w.heap.size->W.heap[k]? =w.heap[k]? :=fun k hk=>(hF.2.2.2.2 k (by omega) (by simp;omega)).trans (hwb k hk);refine⟨fun r e=>hrow.lt r e,by have:=hF.2.2.2.1;omega,?_,?_⟩
  ·intro k hk
   exact(World.cell?_of_block (w:=w) (hWb2 _ HK.o.lt)).trans (HK.o k hk)
  ·have:Boxed W (w.heap.size+4) 9 (.string s):=(hF.2.2.2.2 _ (by omega) (by simp)).trans hsb
   exact this.cell
 clear hY hYe hrec;rw[hz0];refine hnow.mono ?_;clear hnow;rintro e W3 ⟨hv,hE⟩;refine⟨hv,?_⟩;clear hv;have Hlx:Hid (lxs s=lx s.size s.data.toList):=hZ (by unfold lxs;rw[if_neg (by omega)]);unfold qPP at hE;cases hx:lx s.size s.data.toList with
 |ok ts=>
  rw[hx]at hE;obtain⟨R,hF,hl,v,hT,hrow,rfl⟩:=hE;refine .inl ⟨hl,?_⟩;have hl':w.heap.size+5+1<W3.heap.size:=(Array.getElem?_eq_some_iff.1 hl).1;obtain⟨W4,hW4⟩:=eX (W3.putObj (w.heap.size+5+1) (.loop (rec .exhausted none)));rw[hW4];have hz4:W4.heap.size=W3.heap.size:=by rw[<-hW4];simp
  have hF4:∀k,k≠w.heap.size+6->W4.heap[k]? =W3.heap[k]? :=fun k hk=>by rw[<-hW4];exact World.putObj_heap_other hk
  have e2:Boxed W4 w.heap.size 191 (.slice none 0 0):=(hF4 _ (by omega)).trans ((hF.2.2.2.2 _ (by omega) (by simp)).trans h2b);have e3:Boxed W4 (w.heap.size+1) 3 (.int .i64 0):=(hF4 _ (by omega)).trans ((hF.2.2.2.2 _ (by omega) (by simp)).trans h3b);have e4:Boxed W4 (w.heap.size+2) 31 (.int .i64 0):=(hF4 _ (by omega)).trans ((hF.2.2.2.2 _ (by omega) (by simp)).trans h4b);have eT:Boxed W4 (w.heap.size+3) 191 v:=(hF4 _ (by omega)).trans hT;have hD:W4.heap[w.heap.size+5]? =some (.deferred (some [])):=(hF4 _ (by omega)).trans ((hF.2.2.2.2 _ (by omega) (by simp)).trans hDb);have hrow4:W4.ownsRow (w.heap.size+7) 195 4 v ts.length (qBJ ts):=by rw[<-hW4];exact ownsRow_putObj hrow _ hl rfl
  have hB4:Below w.heap.size w W4:=⟨by rw[<-hW4];exact hF.1.trans (by rw[<-hWb,<-hw0];rfl),by rw[<-hW4];exact hF.2.1.trans (by rw[<-hWb,<-hw0];rfl),by rw[<-hW4];exact hF.2.2.1.trans (by rw[<-hWb,<-hw0];rfl),by omega,fun k hk=>(hF4 k (by omega)).trans ((hF.2.2.2.2 k (by omega) (by simp;omega)).trans (hwb k hk))⟩;have c2:=e2.cell;have c3:=e3.cell;have c4:=e4.cell;have cT:=eT.cell;have f2:=e2.frozen;have f3:=e3.frozen;have f4:=e4.frozen;have HB4:=hZ hB4;have He2:=hZ e2;have He3:=hZ e3;have He4:=hZ e4;have HD:=hZ hD;have Hrow4:=hZ hrow4;have Hx:=hZ hx;clear hx hrow4 hD e2 e3 e4 eT hB4 hF hl hT hrow hl' hF4 hz4 hW4 hWb hJ0 hlb hDb hold h2b h3b h4b hTb hsb hwb hzb;obtain⟨a0,ln,cp,rfl⟩:∃a0 ln cp,v=.slice a0 ln cp:=by
   rcases Hrow4.o.2 with ⟨h,_⟩|⟨g,cap,cur,h,_⟩
   ·exact⟨_,_,_,h⟩
   ·exact⟨_,_,_,h⟩
  gi_wp2
  obtain⟨X,hX⟩:=eX ((((W4.setCell ⟨w.heap.size,0,none⟩ (Value.slice a0 ln cp)).setCell ⟨w.heap.size+1,0,none⟩ (.int .i64 0)).setCell ⟨w.heap.size+1+1,0,none⟩ (.int .i64 0)));rw[hX];have hXk:∀k,k≠w.heap.size->k≠w.heap.size+1->k≠w.heap.size+2->X.heap[k]? =W4.heap[k]? :=by
   intro k k1 k2 k3;rw[<-hX];exact(Below.heap_setCell _ ⟨w.heap.size+2,0,none⟩ _ _ k3).trans ((Below.heap_setCell _ ⟨w.heap.size+1,0,none⟩ _ _ k2).trans (Below.heap_setCell _ ⟨w.heap.size,0,none⟩ _ _ k1))
  have x2:Boxed X w.heap.size 191 (.slice a0 ln cp):=by rw[<-hX];exact((He2.o.set _).other (by omega) _).other (by omega) _
  have x3:Boxed X (w.heap.size+1) 3 (.int .i64 0):=by rw[<-hX];exact((He3.o.other (by omega) _).set _).other (by omega) _
  have x4:Boxed X (w.heap.size+1+1) 31 (.int .i64 0):=by rw[<-hX];exact((He4.o.other (by omega) _).other (by omega) _).set _
  have xD:=(hXk (w.heap.size+5) (by omega) (by omega) (by omega)).trans HD.o;have hsX:X.os=W4.os/\X.tape=W4.tape/\X.output=W4.output/\X.heap.size=W4.heap.size:=by
   rw[<-hX];exact⟨rfl,rfl,rfl,by rw[qAw,qAw,qAw]⟩
  refine⟨by simp,.inl ⟨_,_,rfl,run_takeDeferred xD,?_⟩⟩;obtain⟨Y,hY⟩:=eX (X.putObj (w.heap.size+5) (.deferred none));rw[hY];have hYk:∀k,k≠w.heap.size+5->Y.heap[k]? =X.heap[k]? :=fun k hk=>by rw[<-hY];exact World.putObj_heap_other hk
  have y2:Boxed Y w.heap.size 191 (.slice a0 ln cp):=(hYk _ (by omega)).trans x2;have y3:Boxed Y (w.heap.size+1) 3 (.int .i64 0):=(hYk _ (by omega)).trans x3;have y4:Boxed Y (w.heap.size+1+1) 31 (.int .i64 0):=(hYk _ (by omega)).trans x4;have d2:=y2.cell;have d3:=y3.cell;have d4:=y4.cell;refine⟨.tuple #[.slice a0 ln cp,.int .i64 0,.int .i64 0],by simp[results,Tryz.results149,go_sem,d2,d3,d4],?_,.inl ⟨ts,_,by rw[Hlx.o,Hx.o],?_,rfl,?_⟩⟩
  ·refine HB4.o.trans ⟨?_,?_,?_,?_,fun k hk=>(hYk k (by omega)).trans (hXk k (by omega) (by omega) (by omega))⟩
   ·rw[<-hY];exact hsX.1
   ·rw[<-hY];exact hsX.2.1
   ·rw[<-hY];exact hsX.2.2.1
   ·rw[<-hY,World.putObj_size];omega
  ·have:=qID s.size _ _ _ (Nat.le_refl _) Hx.o;simpa using this
  ·rw[<-hY]
   refine ownsRow_putObj (qIw (base:=w.heap.size+7) (by omega) ?_) _ xD rfl;refine⟨Hrow4.o.1,?_⟩;rcases Hrow4.o.2 with h|⟨g,cap,cur,hv,hb,hgb,rest⟩
   ·exact .inl h
   ·exact .inr ⟨g,cap,cur,hv,hb,(hXk g (by omega) (by omega) (by omega)).trans hgb,rest⟩
 |error x=>
  obtain⟨k,er⟩:=x;rw[hx]at hE;obtain⟨hF,hl,e2,e3,e4⟩:=hE;refine .inr ⟨hl,?_⟩;have hl':w.heap.size+5+1<W3.heap.size:=(Array.getElem?_eq_some_iff.1 hl).1;obtain⟨W4,hW4⟩:=eX (W3.putObj (w.heap.size+5+1) (.loop (rec .exhausted (some .ret))));rw[hW4];have hz4:W4.heap.size=W3.heap.size:=by rw[<-hW4];simp
  have hF4:∀k,k≠w.heap.size+6->W4.heap[k]? =W3.heap[k]? :=fun k hk=>by rw[<-hW4];exact World.putObj_heap_other hk
  have hD:W4.heap[w.heap.size+5]? =some (.deferred (some [])):=(hF4 _ (by omega)).trans ((hF.2.2.2.2 _ (by omega) (by simp)).trans hDb);have hB4:Below w.heap.size w W4:=⟨by rw[<-hW4];exact hF.1.trans (by rw[<-hWb,<-hw0];rfl),by rw[<-hW4];exact hF.2.1.trans (by rw[<-hWb,<-hw0];rfl),by rw[<-hW4];exact hF.2.2.1.trans (by rw[<-hWb,<-hw0];rfl),by omega,fun k hk=>(hF4 k (by omega)).trans ((hF.2.2.2.2 k (by omega) (by simp;omega)).trans (hwb k hk))⟩;refine⟨by simp,.inl ⟨_,_,rfl,run_takeDeferred hD,?_⟩⟩;obtain⟨Y,hY⟩:=eX (W4.putObj (w.heap.size+5) (.deferred none));rw[hY];have hYk:∀k,k≠w.heap.size+5->Y.heap[k]? =W4.heap[k]? :=fun k hk=>by rw[<-hY];exact World.putObj_heap_other hk
  have y2:Boxed Y w.heap.size 191 (.slice none 0 0):=(hYk _ (by omega)).trans ((hF4 _ (by omega)).trans e2);have y3:Boxed Y (w.heap.size+1) 3 (.int .i64 k):=(hYk _ (by omega)).trans ((hF4 _ (by omega)).trans e3);have y4:Boxed Y (w.heap.size+1+1) 31 (.int .i64 er):=(hYk _ (by omega)).trans ((hF4 _ (by omega)).trans e4);have d2:=y2.cell;have d3:=y3.cell;have d4:=y4.cell;refine⟨.tuple #[.slice none 0 0,.int .i64 k,.int .i64 er],by simp[results,Tryz.results149,go_sem,d2,d3,d4],?_,.inr ⟨k,er,by rw[Hlx.o,hx],rfl,(qPD s.size _ _ k er (Nat.le_refl _) hx).1⟩⟩;exact hB4.trans ⟨by rw[<-hY];rfl,by rw[<-hY];rfl,by rw[<-hY];rfl,by rw[<-hY,World.putObj_size];omega,fun k hk=>hYk k (by omega)⟩
theorem qJx(s:ByteArray)(w:World)(hs:8192<s.size)(hs':s.size<=4611686018427387904):
 Calls Tryz.prog 149 #[.string s] w (qEV 195 s w):=by
 go_enter Tryz.func149,Tryz.ntmps149
 go_wp2
 refine bodyPost_ret (v:=.tuple #[.slice none 0 0,.int .i64 0,.int .i64 4]) (by simp[results,Tryz.results149,go_sem]) rfl ⟨(aR.alloc (by simp) _).alloc (by simp;omega) _,.inr ⟨0,4,by unfold lxs;rw[if_pos hs],rfl,.inr rfl⟩⟩
theorem qLh(s:ByteArray)(w:World)(hs':s.size<=4611686018427387904)(hK:qAZ w):
 Calls Tryz.prog 149 #[.string s] w (qEV 195 s w):=by
 by_cases h:8192<s.size
 ·exact qJx s w h hs'
 ·exact callsIn_wide.1 (qMp s w (by omega) hK)
def qGr(n:Tx):Prop:=n.length<=1000/\lxs ⟨n.toArray⟩=.ok [⟨0,n,0,0⟩]
theorem qKT(n:Tx)(w:World)(hn:qGr n)(hK:qAZ w):Calls Tryz.prog 78 #[.string ⟨n.toArray⟩] w fun e w'=>e=.returned (.bool true)/\Below w.heap.size w w':=by
 have HT:=hZ (qLh ⟨n.toArray⟩ w (by have:=hn.1;show n.toArray.size<=_;simp;omega) hK);have HN:=hZ hn.2;have hlen:=hn.1;clear hn hK
 go_enter Tryz.func78,Tryz.ntmps78
 go_wp2_with fail
 refine HT.o.mono ?_;rintro e w5 ⟨hB,⟨ts,v,h1,h2,rfl,ho⟩|⟨k,er,h1,rfl,her⟩⟩
 ·rw[HN.o]at h1
  injection h1 with h1;subst h1;have HB:=hZ hB;obtain⟨g,cap,rfl,-⟩:=ho.form (by simp);have hc0:=ho.cells (g:=g) rfl 0 _ rfl;have hc1:=ho.cells (g:=g) rfl 1 _ rfl;have ha0:(⟨g,0,none⟩:Addr).add 0=⟨g,0,none⟩:=rfl;have ha1:(⟨g,0,none⟩:Addr).add 1=⟨g,1,none⟩:=rfl;rw[ha0]at hc0;rw[ha1]at hc1;simp only[]at hc0 hc1;have hcap:1<=cap/\cap<=9223372036854775807:=by
   rcases ho.2 with ⟨hv,_⟩|⟨_,_,_,hv,_,_,h4,h3,_⟩
   ·cases hv
   ·injection hv with _ _ e
    unfold maxLen at h3;simp at h4;omega
  clear ho hB h2 ha0 ha1;simp only[List.length_cons,List.length_nil]
  go_wp2_with fail
  go_ret;exact⟨rfl,HB.o⟩
 ·rw[HN.o]at h1
  cases h1
theorem qAZ.keep{w w':World}(h:qAZ w)(hb:Below w.heap.size w w'):qAZ w':=fun k hk=>(hb.cell (p:=⟨2,k,none⟩) h.lt).trans (h k hk)
theorem qO7(n:Tx)(w:World)(hn:qGr n)(hK:qAZ w):Calls Tryz.prog 77 #[qLN n] w fun e w'=>e=.returned (.bool true)/\Below w.heap.size w w':=by
 have hB0:Below w.heap.size w (w.alloc (.cells #[.string ⟨n.toArray⟩,.bool false,.bool false,.bool false,.int .i64 0,.int .i64 0,.int .i64 0] 61)):=aR;have HC:=hZ (qKT n _ hn (hK.keep hB0));have HB0:=hZ hB0;clear hB0 hK hn;unfold qLN
 go_enter Tryz.func77,Tryz.ntmps77
 go_wp2_with fail
 refine HC.o.mono ?_;rintro e w5 ⟨rfl,hB⟩;have HB:=hZ (HB0.o.trans (hB.mono (by simp)));clear hB
 go_wp2_with fail
 go_ret;exact⟨rfl,HB.o⟩
theorem qO6(r:Rul)(p:Pl)(w:World)(hn:qGr r.name)(hK:qAZ w):Calls Tryz.prog 79 #[qGu r p] w fun e w'=>e=.returned (.bool true)/\Below w.heap.size w w':=by
 have HC:=hZ (fun w'=>qKT r.name w' hn);have HK:=hZ hK;clear hK hn;unfold qGu
 go_enter Tryz.func79,Tryz.ntmps79
 go_wp2_with fail
 refine(HC.o _ (HK.o.keep aR)).mono ?_;rintro e w5 ⟨rfl,hB⟩;have HB:=hZ (aR.trans (hB.mono (by simp)));clear hB
 go_wp2_with fail
 go_ret;exact⟨rfl,HB.o⟩
structure qJn(c:Cat):Prop where
 wi:∀n∈c.items,qGr n
 wr:∀r∈c.rules,qGr r.name
structure qBw(w:World)(b:Nat)(vi vr:Value):Prop where
 lt:b<w.heap.size
 c0:w.cell? ⟨b,0,none⟩=some vi
 c1:w.cell? ⟨b,1,none⟩=some vr
 c2:w.cell? ⟨b,2,none⟩=some (.slice none 0 0)
 c3:w.cell? ⟨b,3,none⟩=some (.slice none 0 0)
theorem qBw.below{w w':World}{b:Nat}{vi vr:Value}(h:qBw w b vi vr)(hb:Below w.heap.size w w'):qBw w' b vi vr:=
 ⟨Nat.lt_of_lt_of_le h.lt hb.size,(hb.cell (p:=⟨b,0,none⟩) h.lt).trans h.c0,(hb.cell (p:=⟨b,1,none⟩) h.lt).trans h.c1,(hb.cell (p:=⟨b,2,none⟩) h.lt).trans h.c2,(hb.cell (p:=⟨b,3,none⟩) h.lt).trans h.c3⟩
theorem qBw.new(w:World)(vi vr:Value):qBw (w.alloc (.cells #[vi,vr,.slice none 0 0,.slice none 0 0] 28)) w.heap.size vi vr:=
 ⟨by simp,by simp,by simp,by simp,by simp⟩
theorem qGQ(vi vr:Value)(c:Cat)(w:World)(hc:qAS w vi vr c)(hg:qHf c):Calls Tryz.prog 39 #[qBo vi vr] w fun e w'=>e=.returned (.bool true)/\Below w.heap.size w w':=by
 have HI:=hZ hc.items;have HR:=hZ hc.rules;obtain⟨ai,ci,rfl,hi1,hi2⟩:=hc.items.form;obtain⟨ar,cr,rfl,hr1,hr2⟩:=hc.rules.form;have hli:=hg.items;have hlr:=hg.rules;have HG:=hZ hg;clear hc hg;unfold qBo;have q1:decide ((c.items.length:Int)<=64)=true:=by simp;omega
 have q2:decide ((c.rules.length:Int)<=64)=true:=by simp;omega
 go_enter Tryz.func39,Tryz.ntmps39
 go_wp2_with fail
 obtain⟨w1,hw1⟩:=eX (w.alloc (.cells #[.slice ai c.items.length ci,.slice ar c.rules.length cr,.slice none 0 0,.slice none 0 0] 28));have HB:Hid (Below w.heap.size w w1):=hZ (by rw[<-hw1];exact aR);have HX:Hid (qBw w1 w.heap.size (.slice ai c.items.length ci) (.slice ar c.rules.length cr)):=hZ (by rw[<-hw1];exact qBw.new _ _ _);have m0:=HX.o.c0;have m1:=HX.o.c1;have m2:=HX.o.c2;have m3:=HX.o.c3;rw[hw1];clear hw1;refine(qDB _ c.rules 71 #[] w1 (HR.o.below HB.o) (by omega) (fun _ _=>by simp[go_sem]) (fun j hj p w' hb hr=>by simpa using qPS c.rules[j] p c.items.length w' hr (HG.o.each _ (List.getElem_mem hj)))).mono ?_;rintro e w2 ⟨rfl,hB⟩;have HB:=hZ (HB.o.trans (hB.mono HB.o.size));have HX:=hZ (HX.o.below hB);clear hB m0 m1 m2 m3;have m0:=HX.o.c0;have m1:=HX.o.c1;have m2:=HX.o.c2;have m3:=HX.o.c3
 go_wp2_with fail
 refine(qCQ _ _).mono ?_;rintro e w' ⟨rfl,rfl⟩
 go_wp2_with fail
 refine(qEl _ _).mono ?_;rintro e w' ⟨rfl,rfl⟩
 go_wp2_with fail
 go_ret;exact⟨rfl,HB.o⟩
theorem qE4(vi vr:Value)(c:Cat)(w:World)(hc:qAS w vi vr c)(hg:qHf c)(hn:qJn c)(hK:qAZ w):Calls Tryz.prog 40 #[qBo vi vr] w fun e w'=>e=.returned (.bool true)/\Below w.heap.size w w':=by
 have HI:=hZ hc.items;have HR:=hZ hc.rules;obtain⟨ai,ci,rfl,hi1,hi2⟩:=hc.items.form;obtain⟨ar,cr,rfl,hr1,hr2⟩:=hc.rules.form;have hli:=hg.items;have hlr:=hg.rules;have HG:=hZ hg;clear hc hg;unfold qBo;have HN:=hZ hn;have HK:=hZ hK;clear hn hK
 go_enter Tryz.func40,Tryz.ntmps40
 go_wp2_with fail
 obtain⟨w1,hw1⟩:=eX (w.alloc (.cells #[.slice ai c.items.length ci,.slice ar c.rules.length cr,.slice none 0 0,.slice none 0 0] 28));have HB:Hid (Below w.heap.size w w1):=hZ (by rw[<-hw1];exact aR);have HX:Hid (qBw w1 w.heap.size (.slice ai c.items.length ci) (.slice ar c.rules.length cr)):=hZ (by rw[<-hw1];exact qBw.new _ _ _);have m0:=HX.o.c0;have m1:=HX.o.c1;have m2:=HX.o.c2;have m3:=HX.o.c3;rw[hw1];clear hw1;have HK:=hZ (HK.o.keep HB.o);refine(qEO _ c.items 77 #[] w1 (HI.o.below HB.o) (by omega) (fun _ _=>by simp[go_sem]) (fun j hj w' hb=>by simpa using qO7 c.items[j] w' (HN.o.wi _ (List.getElem_mem hj)) (HK.o.keep hb))).mono ?_;rintro e w2 ⟨rfl,hB⟩;have HK:=hZ (HK.o.keep hB);have HB:=hZ (HB.o.trans (hB.mono HB.o.size));have HX:=hZ (HX.o.below hB);clear hB m0 m1 m2 m3;have m0:=HX.o.c0;have m1:=HX.o.c1;have m2:=HX.o.c2;have m3:=HX.o.c3
 go_wp2_with fail
 refine(qDB _ c.rules 79 #[] w2 (HR.o.below HB.o) (by omega) (fun _ _=>by simp[go_sem]) (fun j hj p w' hb hr=>by simpa using qO6 c.rules[j] p w' (HN.o.wr _ (List.getElem_mem hj)) (HK.o.keep hb))).mono ?_;rintro e w3 ⟨rfl,hB⟩;have HB:=hZ (HB.o.trans (hB.mono HB.o.size));have HX:=hZ (HX.o.below hB);clear hB m0 m1 m2 m3;have m0:=HX.o.c0;have m1:=HX.o.c1;have m2:=HX.o.c2;have m3:=HX.o.c3
 go_wp2_with fail
 refine(qCQ _ _).mono ?_;rintro e w' ⟨rfl,rfl⟩
 go_wp2_with fail
 refine(qEl _ _).mono ?_;rintro e w' ⟨rfl,rfl⟩
 go_wp2_with fail
 go_ret;exact⟨rfl,HB.o⟩
theorem qIZ(f:Value)(w:World):Calls Tryz.prog 86 #[.slice none 0 0,f] w fun e w'=>e=.returned (.bool true)/\Below w.heap.size w w':=by
 have hmk:=fun w=>qBr (P:=Tryz.prog) 196 9 4 .i64 0 Tryz.underlying196 w
 go_enter Tryz.func86,Tryz.ntmps86
 go_wp2_with fail
 refine wp_loop_rounds 1 ?_;rw[rounds_succ]
 go_wp2_with fail
 go_ret;exact⟨rfl,aR⟩
theorem qLX(f:Value)(w:World):Calls Tryz.prog 88 #[.slice none 0 0,f] w fun e w'=>e=.returned (.bool true)/\Below w.heap.size w w':=by
 have hmk:=fun w=>qBr (P:=Tryz.prog) 196 9 4 .i64 0 Tryz.underlying196 w
 go_enter Tryz.func88,Tryz.ntmps88
 go_wp2_with fail
 refine wp_loop_rounds 1 ?_;rw[rounds_succ]
 go_wp2_with fail
 go_ret;exact⟨rfl,aR⟩
theorem qFS(vi vr:Value)(c:Cat)(w:World)(hc:qAS w vi vr c)(hg:qHf c)(hn:qJn c)(h1:c.items.Nodup)(h2:(c.rules.map (fun x=>x.name)).Nodup):Calls Tryz.prog 41 #[qBo vi vr] w fun e w'=>e=.returned (.bool true)/\Below w.heap.size w w':=by
 have HI:=hZ hc.items;have HR:=hZ hc.rules;obtain⟨ai,ci,rfl,hi1,hi2⟩:=hc.items.form;obtain⟨ar,cr,rfl,hr1,hr2⟩:=hc.rules.form;have hli:=hg.items;have hlr:=hg.rules;have HG:=hZ hg;clear hc hg;unfold qBo;have HN:=hZ hn;have HD1:Hid (decide ((c.items.map (fun x=>x)).Nodup)=true):=hZ (by rw[List.map_id''];exact decide_eq_true h1;exact fun _=>rfl);have HD2:=hZ (decide_eq_true h2);clear hn h1 h2
 go_enter Tryz.func41,Tryz.ntmps41
 go_wp2_with fail
 obtain⟨w1,hw1⟩:=eX (w.alloc (.cells #[.slice ai c.items.length ci,.slice ar c.rules.length cr,.slice none 0 0,.slice none 0 0] 28));have HB:Hid (Below w.heap.size w w1):=hZ (by rw[<-hw1];exact aR);have HX:Hid (qBw w1 w.heap.size (.slice ai c.items.length ci) (.slice ar c.rules.length cr)):=hZ (by rw[<-hw1];exact qBw.new _ _ _);have m0:=HX.o.c0;have m1:=HX.o.c1;have m2:=HX.o.c2;have m3:=HX.o.c3;rw[hw1];clear hw1;refine(qGh _ c.items w1 (HI.o.below HB.o) (by omega) (fun x hx=>(HN.o.wi x hx).1)).mono ?_;rw[HD1.o];rintro e w2 ⟨rfl,hB⟩;have HB:=hZ (HB.o.trans (hB.mono HB.o.size));have HX:=hZ (HX.o.below hB);clear hB m0 m1 m2 m3;have m0:=HX.o.c0;have m1:=HX.o.c1;have m2:=HX.o.c2;have m3:=HX.o.c3
 go_wp2_with fail
 refine(qKa _ c.rules w2 (HR.o.below HB.o) (by omega) (fun x hx=>(HN.o.wr x hx).1)).mono ?_;rw[HD2.o];rintro e w3 ⟨rfl,hB⟩;have HB:=hZ (HB.o.trans (hB.mono HB.o.size));have HX:=hZ (HX.o.below hB);clear hB m0 m1 m2 m3;have m0:=HX.o.c0;have m1:=HX.o.c1;have m2:=HX.o.c2;have m3:=HX.o.c3
 go_wp2_with fail
 refine(qIZ _ _).mono ?_;rintro e w4 ⟨rfl,hB⟩;have HB:=hZ (HB.o.trans (hB.mono HB.o.size));have HX:=hZ (HX.o.below hB);clear hB m0 m1 m2 m3;have m0:=HX.o.c0;have m1:=HX.o.c1;have m2:=HX.o.c2;have m3:=HX.o.c3
 go_wp2_with fail
 refine(qLX _ _).mono ?_;rintro e w5 ⟨rfl,hB⟩;have HB:=hZ (HB.o.trans (hB.mono HB.o.size));have HX:=hZ (HX.o.below hB);clear hB m0 m1 m2 m3;have m0:=HX.o.c0;have m1:=HX.o.c1;have m2:=HX.o.c2;have m3:=HX.o.c3
 go_wp2_with fail
 go_ret;exact⟨rfl,HB.o⟩
theorem qGF(vi vr:Value)(c:Cat)(w:World)(hc:qAS w vi vr c)(hg:qHf c)(hn:qJn c)(h1:¬c.items.Nodup):Calls Tryz.prog 41 #[qBo vi vr] w fun e w'=>e=.returned (.bool false)/\Below w.heap.size w w':=by
 have HI:=hZ hc.items;have HR:=hZ hc.rules;obtain⟨ai,ci,rfl,hi1,hi2⟩:=hc.items.form;obtain⟨ar,cr,rfl,hr1,hr2⟩:=hc.rules.form;have hli:=hg.items;have hlr:=hg.rules;have HG:=hZ hg;clear hc hg;unfold qBo;have HN:=hZ hn;have HD1:Hid (decide ((c.items.map (fun x=>x)).Nodup)=false):=hZ (by rw[List.map_id''];exact decide_eq_false h1;exact fun _=>rfl);clear hn h1
 go_enter Tryz.func41,Tryz.ntmps41
 go_wp2_with fail
 obtain⟨w1,hw1⟩:=eX (w.alloc (.cells #[.slice ai c.items.length ci,.slice ar c.rules.length cr,.slice none 0 0,.slice none 0 0] 28));have HB:Hid (Below w.heap.size w w1):=hZ (by rw[<-hw1];exact aR);have HX:Hid (qBw w1 w.heap.size (.slice ai c.items.length ci) (.slice ar c.rules.length cr)):=hZ (by rw[<-hw1];exact qBw.new _ _ _);have m0:=HX.o.c0;have m1:=HX.o.c1;have m2:=HX.o.c2;have m3:=HX.o.c3;rw[hw1];clear hw1;refine(qGh _ c.items w1 (HI.o.below HB.o) (by omega) (fun x hx=>(HN.o.wi x hx).1)).mono ?_;rw[HD1.o];rintro e w2 ⟨rfl,hB⟩;have HB:=hZ (HB.o.trans (hB.mono HB.o.size));have HX:=hZ (HX.o.below hB);clear hB m0 m1 m2 m3;have m0:=HX.o.c0;have m1:=HX.o.c1;have m2:=HX.o.c2;have m3:=HX.o.c3
 go_wp2_with fail
 go_ret;exact⟨rfl,HB.o⟩
end Go.Proofs.YtkjhlkngihponaaGreatDoor
