/- The lexer's iterator (the closure that all hands back), for every round that keeps its word. -/
import Derived.Test.YtpmnbcdjoomgcaaDoorQURefWalks
import Derived.Test.YtpmnbcdjoomgcaaDoorQUShelf
import Derived.RegionTactic
import Derived.ChangeAlike
import Derived.OwnWalkIn
import Derived.TacticsInMore
import Derived.LoopNIn
import Derived.LoopIn
set_option linter.unusedVariables false
set_option linter.unusedSimpArgs false
set_option maxHeartbeats 2000000
namespace Go.Proofs.YtpmnbcdjoomgcaaDoor
open Go.RowKit
def qAT(w:World):Prop:=∀k,k<128->w.cell? ⟨0,k,none⟩=some (.int .u8 (kindsL.getD k 0))
theorem qAT.lt{w:World}(h:qAT w):0<w.heap.size:=World.block_lt_of_cell? w _ (h 0 (by omega))
theorem qAT.below{w w':World}(h:qAT w){B:Nat}(hb:Below B w w')(hB:0<B):qAT w':=
 fun k hk=>(hb.cell (p:=⟨0,k,none⟩) hB).trans (h k hk)
def qDs(s:ByteArray)(k:Nat):Int:=if h:k<s.size then kd s[k]else 0
theorem qBF(s:ByteArray)(k:Nat)(h:k<s.size):qDs s k=kd s[k]:=by unfold qDs;rw[dif_pos h]
theorem qFI(s:ByteArray)(k:Nat)(h:s.size<=k):qDs s k=0:=by unfold qDs;rw[dif_neg (by omega)]
theorem qAJ(s:ByteArray)(k:Nat)(w:World)(_hs:s.size<=4611686018427387904)(_hk:k<=4611686018427387905)(hK:qAT w):
 Calls Tryd.prog 103 #[.string s,.int .i64 k] w fun e w'=>e=.returned (.int .u8 (qDs s k))/\w=w':=by
 have HK:=hZ hK;clear hK;by_cases hlt:k<s.size
 ·have hE:=hZ (qBF s k hlt)
  by_cases h8:s[k].toNat<128
  ·have hc:=HK.o s[k].toNat h8
   have hf:Hid (kindsL.getD s[k].toNat 0=kd s[k]):=hZ (by unfold kd;rw[if_pos h8]);generalize kindsL.getD s[k].toNat 0=v at *
   go_enter Tryd.func103,Tryd.ntmps103
   go_wp2
   go_ret;exact⟨qCd (by rw[hE.o,<-hf.o]),rfl⟩
  ·have hf:Hid (0=kd s[k]):=hZ (by unfold kd;rw[if_neg h8])
   go_enter Tryd.func103,Tryd.ntmps103
   go_wp2
   go_ret;exact⟨qCd (by rw[hE.o,<-hf.o]),rfl⟩
 ·have hE:=hZ (qFI s k (by omega))
  go_enter Tryd.func103,Tryd.ntmps103
  go_wp2
  go_ret;exact⟨qCd (by rw[hE.o]),rfl⟩
theorem qJk(s:ByteArray)(n:Nat)(a:Int)(ha:a=n)(w:World)(hs:s.size<=4611686018427387904)(hk:n<=4611686018427387905)(hK:qAT w):
 Calls Tryd.prog 103 #[.string s,.int .i64 a] w fun e w'=>e=.returned (.int .u8 (qDs s n))/\w=w':=by
 subst ha;exact qAJ s n w hs hk hK
theorem qHx(c:UInt8):kd c=1 ↔ cl c=0:=by have:=qB0 c;rw[qGV];unfold qJ0;omega
theorem qGU(c:UInt8):kd c=2 ↔ cl c=5:=by have:=qB0 c;rw[qGV];unfold qJ0;omega
theorem qEK(c:UInt8):kd c=3 ↔ cl c=1:=by have:=qB0 c;rw[qGV];unfold qJ0;omega
theorem qEg(c:UInt8):kd c=4 ↔ cl c=2:=by have:=qB0 c;rw[qGV];unfold qJ0;omega
theorem qKz(c:UInt8):kd c=5 ↔ cl c=3:=by have:=qB0 c;rw[qGV];unfold qJ0;omega
theorem qHw(c:UInt8):kd c=6 ↔ cl c=6:=by have:=qB0 c;rw[qGV];unfold qJ0;omega
theorem qGf(c:UInt8):kd c=7 ↔ cl c=4:=by have:=qB0 c;rw[qGV];unfold qJ0;omega
def qBP(s:ByteArray)(k:Nat):Nat:=run (fun c=>c != 10) s k
theorem qDu:∀(l:Bs),Lib.indexByte l 10=if ((l.takeWhile (fun c=>c != 10)).length<l.length)then ((l.takeWhile (fun c=>c != 10)).length:Int)else -1
 |[]=>by simp[Lib.indexByte]
 |c::l=>by
  have ih:=qDu l;unfold Lib.indexByte;by_cases h:c=10
  ·subst h;simp
  ·have h1:(c==10)=false:=by simp[h]
   have h2:(c != 10)=true:=by simp[h]
   rw[List.takeWhile_cons];simp only[h1,h2,if_true,Bool.false_eq_true,if_false,List.length_cons];rw[ih];by_cases hl:(l.takeWhile (fun c=>c != 10)).length<l.length
   ·have hl':(l.takeWhile (fun c=>c != 10)).length+1<l.length+1:=by omega
    have hne:((((l.takeWhile (fun c=>c != 10)).length:Nat):Int)== -1)=false:=by rw[beq_eq_false_iff_ne];omega
    simp only[hl,hl',if_true,hne,Bool.false_eq_true,if_false];omega
   ·have hl':¬(l.takeWhile (fun c=>c != 10)).length+1<l.length+1:=by omega
    simp[hl]
def qKm(s:ByteArray)(k:Nat):Int:=if qBP s k<s.size then (qBP s k-k:Nat)else -1
theorem qLP(s:ByteArray)(k:Nat)(w:World)(hk:k<=s.size):
 Calls Tryd.prog 104 #[.string (s.extract k s.size),.int .u8 10] w fun e w'=>e=.returned (.int .i64 (qKm s k))/\w=w':=by
 refine(Tryd.strings_IndexByte (s.extract k s.size) 10 w).mono ?_;rintro e w' ⟨rfl,rfl⟩;refine⟨qCd ?_,rfl⟩;have hl:s.data.toList.length=s.size:=by simp
 have hd:(s.extract k s.size).data.toList=s.data.toList.drop k:=by
  rw[ByteArray.data_extract,Array.toList_extract,List.extract_eq_take_drop,List.take_of_length_le];rw[List.length_drop];omega
 rw[hd]
 show Lib.indexByte (s.data.toList.drop k) 10=_
 rw[qDu];unfold qKm qBP run;rw[List.length_drop,hl];have:=(List.takeWhile_sublist (fun c:UInt8=>c != 10) (l:=s.data.toList.drop k)).length_le;rw[List.length_drop,hl]at this
 split<;>split<;>omega
theorem qHU(s:ByteArray)(k:Nat)(h:k<s.size)(hb:cl s[k]=0):qEW s false k=qEW s false (k+1):=by
 unfold qEW;rw[qAE s k h,qBW _ _ hb]
theorem qHT(s:ByteArray)(k:Nat)(h:k<s.size)(h0:cl s[k]≠0)(h5:cl s[k]≠5):qEW s false k=k:=
 qEp s false k (by omega) (by rw[qAE s k h,qID _ _ h0 h5])
theorem qE0(p:UInt8->Bool)(l:Bs):l.drop (l.takeWhile p).length=l.dropWhile p:=by
 induction l with
 |nil=>rfl
 |cons c l ih=>
  rw[List.takeWhile_cons,List.dropWhile_cons];by_cases h:p c=true
  ·rw[if_pos h,if_pos h,List.length_cons,List.drop_succ_cons];exact ih
  ·rw[if_neg h,if_neg h];rfl
theorem qKH(p:UInt8->Bool)(s:ByteArray)(k:Nat):s.data.toList.drop (run p s k)=(s.data.toList.drop k).dropWhile p:=by
 unfold run;rw[<-List.drop_drop,qE0]
theorem qFS(s:ByteArray)(k:Nat)(h:k<s.size)(h5:cl s[k]=5):qEW s false k=qEW s false (qBP s k):=by
 have h10:s[k] != 10:=by
  have:=(qDc s[k]).1.1 h5;simp only[bne_iff_ne,ne_eq];intro e;rw[e]at this;revert this;decide
 unfold qEW qBP;rw[qKH,qAE s k h,qIE _ _ h5,qDC,List.dropWhile_cons,if_pos h10]
theorem qJh(s:ByteArray)(k:Nat)(h:k<s.size)(h5:cl s[k]=5):k<qBP s k:=by
 have h10:(s[k] != 10)=true:=by
  have:=(qDc s[k]).1.1 h5;simp only[bne_iff_ne,ne_eq];intro e;rw[e]at this;revert this;decide
 unfold qBP;rw[qDm _ s k h h10];exact qLM _ _ _
theorem qHc(s:ByteArray)(k0:Nat)(w:World)(hs:s.size<=4611686018427387904)(hk0:k0<=s.size)(hK:qAT w):
 Calls Tryd.prog 80 #[.string s,.int .i64 k0] w fun e w'=>e=.returned (.int .i64 (qEW s false k0))/\w=w':=by
 have HK:=hZ hK;clear hK
 go_enter Tryd.func80,Tryd.ntmps80
 go_wp2
 go_loop [1] (fun i=>∃(k:Nat),k<=s.size/\i=.int .i64 k/\Hid (qEW s false k=qEW s false k0)) (fun i=>s.size-(intOf i).toNat)
 case atStart=>exact⟨k0,hk0,rfl,rfl⟩
 case round=>
  obtain⟨k,hk,rfl,hI⟩:=hrel;by_cases hlt:k<s.size
  ·have hE:=hZ (qBF s k hlt)
   generalize hg:qDs s k=kk at *;have Hg:=hZ hg;clear hg;have hnl:qKm s k<=s.size-k:=by
    have:=qIL (fun c=>c != 10) s k hk;have h2:qBP s k=run (fun c=>c != 10) s k:=rfl;unfold qKm;split<;>omega
   have hn0:=hZ (rfl:qKm s k=qKm s k);generalize hn:qKm s k=nl at hnl;have Hn:=hZ hn;clear hn hn0
   go_wp2_with (first|(go_at_call 103;refine(qAJ _ _ _ hs (by omega) HK.o).mono ?_;rw[Hg.o];rintro e w' ⟨rfl,rfl⟩)|(go_at_call 104;refine(qLP _ _ _ hk).mono ?_;rw[Hn.o];rintro e w' ⟨rfl,rfl⟩))
   ·have q:(kk==1)=true:=by assumption
    have hc:cl s[k]=0:=(qHx _).1 (by rw[<-hE.o];simpa using q)
    go_round
    case rel=>exact⟨k+1,by omega,by go_num,hZ (by rw[<-qHU s k hlt hc,hI.o])⟩
    case measure=>simp[intOf];omega
   ·have q:(kk==2)=true:=by assumption
    have q2:nl<0:=by assumption
    have hc:cl s[k]=5:=(qGU _).1 (by rw[<-hE.o];simpa using q);go_ret;refine⟨qCd ?_,rfl⟩;rw[<-hI.o,qFS s k hlt hc];have h1:qBP s k<=s.size:=qIL _ s k hk;have h2:¬qBP s k<s.size:=by
     intro h;rw[<-Hn.o]at q2;unfold qKm at q2;rw[if_pos h]at q2;omega
    have h3:qBP s k=s.size:=by omega
    rw[h3,qEp s false s.size (Nat.le_refl _) (by rw[qDw s _ (Nat.le_refl _)];rfl)]
   ·have q:(kk==2)=true:=by assumption
    have q2:0<=nl:=by assumption
    have hc:cl s[k]=5:=(qGU _).1 (by rw[<-hE.o];simpa using q);have h1:qBP s k<=s.size:=qIL _ s k hk;have h0:=qJh s k hlt hc;have h2:nl=(qBP s k:Int)-k:=by
     rw[<-Hn.o]at q2 ⊢;unfold qKm at q2 ⊢;by_cases h:qBP s k<s.size
     ·rw[if_pos h];omega
     ·rw[if_neg h]at q2;omega
    go_round
    case rel=>exact⟨qBP s k,h1,by rw[h2];go_num,hZ (by rw[<-qFS s k hlt hc,hI.o])⟩
    case measure=>simp[intOf];omega
   ·have q1:(kk==1)=false:=by assumption
    have q2:(kk==2)=false:=by assumption
    have h0:cl s[k]≠0:=fun h=>by rw[<-qHx,<-hE.o]at h;simp[h]at q1
    have h5:cl s[k]≠5:=fun h=>by rw[<-qGU,<-hE.o]at h;simp[h]at q2
    go_ret;exact⟨qCd (by rw[<-hI.o,qHT s k hlt h0 h5]),rfl⟩
  ·go_wp2
   go_ret;exact⟨qCd (by rw[<-hI.o,qEp s false k hk (by rw[qDw s k (by omega)];rfl)]),rfl⟩
def qAN(a:Int)(b:ByteArray)(c d:Int):Value:=.agg #[.int .i64 a,.string b,.int .i64 c,.int .i64 d]
def qCT(s:ByteArray)(k:Nat)(w:World)(e:Ending)(w':World):Prop:=
 Below w.heap.size w w'/\((∃er a b c,nx k (s.data.toList.drop k)=.error er/\e=.returned (.tuple #[qAN a b c k,.int .i64 er])/\(er=2\/er=4))\/
  (∃t,nx k (s.data.toList.drop k)=.ok t/\e=.returned (.tuple #[qAN t.kind ⟨t.text.toArray⟩ t.n k,.int .i64 0])))
theorem qBZ(s:ByteArray)(k n:Nat):s.extract k (k+n)=⟨((s.data.toList.drop k).take n).toArray⟩:=by
 apply ByteArray.ext;rw[ByteArray.data_extract];apply Array.ext';rw[Array.toList_extract,List.extract_eq_take_drop];simp
theorem qFP(s:ByteArray)(k:Nat):tl (s.data.toList.drop k)=qAM s k-k:=by unfold qAM;omega
theorem qI9(s:ByteArray)(k:Nat)(hk:k<s.size)(h4:cl s[k]=4):nx k (s.data.toList.drop k)=.ok ⟨2,(s.data.toList.drop k).take 1,0,k⟩:=by
 have h1:tl (s.data.toList.drop k)=1:=by rw[qFP,qD2 s k hk h4];omega
 rw[qAE s k hk]at h1 ⊢;unfold nx;simp only[h1,h4];rfl
theorem qGP(s:ByteArray)(k:Nat)(w:World)(hs:s.size<=4611686018427387904)(hk:k<s.size)(hK:qAT w)(h4:Hid (cl s[k]=4)):
 Calls Tryd.prog 81 #[.string s,.int .i64 k] w (qCT s k w):=by
 have hkd:qDs s k=7:=by rw[qBF s k hk];exact(qGf _).2 h4.o
 have Hkd:=hZ hkd;have HK:=hZ hK;have hE:=hZ (qD2 s k hk h4.o);clear hkd hK
 go_enter Tryd.func81,Tryd.ntmps81
 go_wp2_with (go_at_call 103;refine(qAJ _ _ _ hs (by omega) (HK.o.below (B:=w.heap.size) (aR.alloc (by simp) _) HK.o.lt)).mono ?_;rw[Hkd.o];rintro e w' ⟨rfl,rfl⟩)
 refine bodyPost_ret (v:=.tuple #[qAN 2 (s.extract k (k+1)) 0 k,.int .i64 0]) (by simp[results,Tryd.results81,go_sem,qAN]) rfl ⟨aR.alloc (by simp) _,.inr ⟨_,qI9 s k hk h4.o,?_⟩⟩;rw[qBZ]
theorem qLQ(s:ByteArray)(k:Nat)(h:k<s.size):(qDs s k=3\/qDs s k=4\/qDs s k=5) ↔ wb s[k]=true:=by
 rw[qBF s k h,qEK,qEg,qKz];have:=qB0 s[k];simp only[wb,Bool.and_eq_true,decide_eq_true_eq];omega
theorem qLR(s:ByteArray)(k:Nat)(h:k<s.size):qDs s k=4 ↔ db s[k]=true:=by
 rw[qBF s k h,qEg];simp[db]
theorem qFp(w:World)(n:Nat)(a:Addr)(v:Value):(w.drewN n).setCell a v=(w.setCell a v).drewN n:=rfl
theorem qG5(w:World)(n:Nat)(o:Obj):(w.drewN n).alloc o=(w.alloc o).drewN n:=rfl
attribute [local go_sem] qFp qG5
def qEU(s:ByteArray)(k q:Nat):Nat:=dv 0 ((s.data.toList.drop k).take (q-k))
theorem qGo(s:ByteArray)(k:Nat):qEU s k k=0:=by unfold qEU;rw[Nat.sub_self];rfl
theorem qJB(s:ByteArray)(k q:Nat)(h:k<=q)(hq:q<s.size):qEU s k (q+1)=10*qEU s k q+dg s[q]:=by
 unfold qEU;have h1:q+1-k=(q-k)+1:=by omega
 have hl:s.data.toList.length=s.size:=by simp
 rw[h1,List.take_succ_eq_append_getElem (by rw[List.length_drop];omega),qJz]
 congr 2
 rw[List.getElem_drop];have:k+(q-k)=q:=by omega
 simp only[this];rfl
theorem qIN(p:UInt8->Bool)(s:ByteArray)(q:Nat)(hq:q<s.size):∀(d k:Nat),k+d=q->q<run p s k->p s[q]=true
 |0,k,hd,h=>by
  obtain rfl:k=q:=by omega
  cases hp:p s[k]with
  |true=>rfl
  |false=>rw[qEc p s k hq hp]at h;omega
 |d+1,k,hd,h=>by
  cases hp:p (s[k]'(by omega))with
  |true=>exact qIN p s q hq d (k+1) (by omega) (by rw[<-qDm p s k (by omega) hp];exact h)
  |false=>rw[qEc p s k (by omega) hp]at h;omega
theorem qLW(s:ByteArray)(k q:Nat)(hk:k<s.size)(h2:cl s[k]=2)(hq:k<=q)(hr:q<run db s (k+1))(hqs:q<s.size):48<=s[q].toNat/\s[q].toNat<=57:=by
 have hr':q<run db s k:=by rw[qDm db s k hk (by simp[db,h2])];exact hr
 have:=qIN db s q hqs (q-k) k (by omega) hr';exact(qDc _).2.2.2.1 (by simpa[db]using this)
theorem qJA:∀(l l':Bs) (n:Nat),dv n l<=dv n (l++l')
 |[],l',n=>by
  have:∀(l:Bs) (n:Nat),n<=dv n l:=by
   intro l
   induction l with
   |nil=>intro n;exact Nat.le_refl _
   |cons c l ih=>intro n;rw[qDP];have:=ih (10*n+dg c);omega
  exact this _ _
 |c::l,l',n=>by rw[List.cons_append,qDP,qDP];exact qJA l l' _
theorem qJC(s:ByteArray)(k a b:Nat)(h:a<=b):qEU s k a<=qEU s k b:=by
 unfold qEU;have h1:a-k<=b-k:=by omega
 have h2:(s.data.toList.drop k).take (a-k)=((s.data.toList.drop k).take (b-k)).take (a-k):=by rw[List.take_take,Nat.min_eq_left h1]
 rw[h2]
 conv=>rhs;rw[<-List.take_append_drop (a-k) ((s.data.toList.drop k).take (b-k))]
 exact qJA _ _ _
theorem qGc(s:ByteArray)(k:Nat)(hk:k<s.size)(h2:cl s[k]=2):nx k (s.data.toList.drop k)=
 if qEU s k (qAM s k)>1099511627776 then .error 4 else .ok ⟨1,(s.data.toList.drop k).take (qAM s k-k),qEU s k (qAM s k),k⟩:=by
 have h0:tl (s.data.toList.drop k)≠0:=by rw[qAE s k hk,tl,if_neg (by omega),if_pos h2];omega
 unfold qEU;rw[<-qFP];rw[qAE s k hk]at h0 ⊢;unfold nx;simp only[];rw[if_neg h0,if_neg (by omega),if_pos h2]
theorem qFE(s:ByteArray)(k q:Nat)(hk:k<s.size)(h2:cl s[k]=2)(_hq0:k<=q)(hq:q<qAM s k)(hN:qEU s k (q+1)>1099511627776):nx k (s.data.toList.drop k)=.error 4:=by
 have:=qJC s k (q+1) (qAM s k) hq;rw[qGc s k hk h2,if_pos (by omega)]
theorem qJa(s:ByteArray)(k j:Nat)(hk:k<s.size)(h2:cl s[k]=2)(hj:qAM s k=j)(hN:qEU s k j<=1099511627776):nx k (s.data.toList.drop k)=.ok ⟨1,(s.data.toList.drop k).take (j-k),qEU s k j,k⟩:=by
 rw[qGc s k hk h2,hj,if_neg (by omega)]
theorem qGQ(s:ByteArray)(k:Nat)(w:World)(hs:s.size<=4611686018427387904)(hk:k<s.size)(hK:qAT w)(h2:Hid (cl s[k]=2)):
 Calls Tryd.prog 81 #[.string s,.int .i64 k] w (qCT s k w):=by
 have hkd:qDs s k=4:=by rw[qBF s k hk];exact(qEg _).2 h2.o
 have Hkd:=hZ hkd;have HK:=hZ hK;have hE:=hZ (qGn s k hk h2.o);clear hkd hK
 go_enter Tryd.func81,Tryd.ntmps81
 go_wp2_with (go_at_call 103;refine(qAJ _ _ _ hs (by omega) (HK.o.below (B:=w.heap.size) (aR.alloc (by simp) _) HK.o.lt)).mono ?_;rw[Hkd.o];rintro e w' ⟨rfl,rfl⟩)
 go_loop [7] (fun i=>∃(j:Nat),k<j/\j<=s.size/\i=.int .i64 j/\Hid (run db s j=qAM s k)) (fun i=>s.size-(intOf i).toNat)
 case atStart=>exact⟨k+1,by omega,by omega,by go_num,hZ hE.o.symm⟩
 case round=>
  obtain⟨j,hj0,hj,rfl,hI⟩:=hrel;by_cases hm:qDs s j=4
  ·have Hm:=hZ hm
   have hjl:j<s.size:=by
    rcases Nat.lt_or_ge j s.size with h|h
    ·exact h
    ·rw[qFI s j h]at hm;omega
   have hdb:=hZ ((qLR s j hjl).1 hm);clear hm
   go_wp2_with (go_at_call 103;refine(qAJ _ _ _ hs (by omega) (HK.o.below (B:=w.heap.size) (aR.alloc (by simp) _) HK.o.lt)).mono ?_;rw[Hm.o];rintro e w' ⟨rfl,rfl⟩)
   go_round
   case rel=>exact⟨j+1,by omega,by omega,by go_num,hZ (by rw[<-qDm db s j hjl hdb.o,hI.o])⟩
   case measure=>simp[intOf];omega
  ·have hm':(qDs s j==4)=false:=by simp[hm]
   have hend:Hid (qAM s k=j):=hZ (by
    rw[<-hI.o];rcases Nat.lt_or_ge j s.size with h|h
    ·exact qEc db s j h (by rw[qLR s j h]at hm;simpa using hm)
    ·exact qIM db s j h)
   clear hm
   go_wp2_with (go_at_call 103;refine(qAJ _ _ _ hs (by omega) (HK.o.below (B:=w.heap.size) (aR.alloc (by simp) _) HK.o.lt)).mono ?_;rintro e w' ⟨rfl,rfl⟩)
   go_loopw [9] (fun i wr=>∃(q m:Nat),k<=q/\q<=j/\i=.int .i64 q/\Hid (wr=((w.alloc (.cells #[.int .i64 0,.string ⟨#[]⟩,.int .i64 0,.int .i64 0] 55)).alloc (.cells #[.int .i64 1,.string ⟨#[]⟩,.int .i64 (qEU s k q),.int .i64 k] 55)).drewN m)/\qEU s k q<=1099511627776) (fun i _=>s.size-(intOf i).toNat)
   case atStart=>exact⟨k,0,Nat.le_refl _,by omega,rfl,hZ (by rw[qGo];rfl),by rw[qGo];omega⟩
   case round=>
    obtain⟨q,m,hq0,hq,rfl,hw,hN⟩:=hrel;have hw':=hw.o;subst hw';clear hw;by_cases hlt:q<j
    ·have hqs:q<s.size:=by omega
     have hd:=qLW s k q hk h2.o hq0 (by rw[<-hE.o,hend.o];exact hlt) hqs;have hst:((qEU s k q:Nat):Int)*10+((s[q].toNat:Nat)-48)%256=((qEU s k (q+1):Nat):Int):=by
      rw[qJB s k q hq0 hqs,qLx];omega
     have Hst:=hZ hst;clear hst hd
     go_wp2
     go_region
     rw[Hst.o];by_cases hbig:qEU s k (q+1)<=1099511627776
     ·generalize hN':qEU s k (q+1)=N' at *
      have HN':=hZ hN';clear hN'
      go_wp2
      go_roundw
      case rel=>exact⟨q+1,m+1,by omega,by omega,by go_num,hZ (by rw[HN'.o]),by rw[HN'.o];exact hbig⟩
      case measure=>simp[intOf];omega
     ·generalize hN':qEU s k (q+1)=N' at *
      have HN':=hZ hN';clear hN'
      go_wp2
      have hnx:=qFE s k q hk h2.o hq0 (by rw[hend.o];exact hlt) (by rw[HN'.o];omega);refine bodyPost_ret (v:=.tuple #[qAN 1 ⟨#[]⟩ N' k,.int .i64 4]) (by simp[results,Tryd.results81,go_sem,qAN]) rfl ⟨below_drewN (aR.alloc (by simp) _) _,.inl ⟨4,_,_,_,hnx,rfl,.inr rfl⟩⟩
    ·obtain rfl:q=j:=by omega
     go_wp2
     have hnx:=qJa s k q hk h2.o hend.o hN;refine bodyPost_ret (v:=.tuple #[qAN 1 (s.extract k q) (qEU s k q) k,.int .i64 0]) (by simp[results,Tryd.results81,go_sem,qAN]) rfl ⟨below_drewN (aR.alloc (by simp) _) _,.inr ⟨_,hnx,?_⟩⟩;have:q=k+(q-k):=by omega
     conv=>lhs;rw[this,qBZ]
     rw[<-this]
theorem qId(s:ByteArray)(k:Nat)(hk:k<s.size)(h1:cl s[k]=1):nx k (s.data.toList.drop k)=
 if qAM s k-k>16 then .error 4 else .ok ⟨0,(s.data.toList.drop k).take (qAM s k-k),0,k⟩:=by
 have h0:tl (s.data.toList.drop k)≠0:=by rw[qAE s k hk,tl,if_pos h1];omega
 rw[<-qFP];rw[qAE s k hk]at h0 ⊢;unfold nx;simp only[];rw[if_neg h0,if_pos h1]
theorem qGO(s:ByteArray)(k:Nat)(hk:k<s.size)(h:qAM s k=k):nx k (s.data.toList.drop k)=.error 2:=by
 have h0:tl (s.data.toList.drop k)=0:=by rw[qFP,h];omega
 rw[qAE s k hk]at h0 ⊢;unfold nx;simp only[];rw[if_pos h0]
theorem qKl(s:ByteArray)(k:Nat)(hk:k<s.size)(h6:cl s[k]=6)(h:qAM s k=k+2):nx k (s.data.toList.drop k)=.ok ⟨2,(s.data.toList.drop k).take 2,0,k⟩:=by
 have h0:tl (s.data.toList.drop k)=2:=by rw[qFP,h];omega
 rw[qAE s k hk]at h0 ⊢;unfold nx;simp only[h0];rw[if_neg (by omega),if_neg (by omega),if_neg (by omega)]
theorem qJc(s:ByteArray)(k:Nat)(w:World)(hs:s.size<=4611686018427387904)(hk:k<s.size)(hK:qAT w)(h1:Hid (cl s[k]=1)):
 Calls Tryd.prog 81 #[.string s,.int .i64 k] w (qCT s k w):=by
 have hkd:qDs s k=3:=by rw[qBF s k hk];exact(qEK _).2 h1.o
 have Hkd:=hZ hkd;have HK:=hZ hK;have hE:=hZ (qIn s k hk h1.o);clear hkd hK
 go_enter Tryd.func81,Tryd.ntmps81
 go_wp2_with (go_at_call 103;refine(qAJ _ _ _ hs (by omega) (HK.o.below (B:=w.heap.size) (aR.alloc (by simp) _) HK.o.lt)).mono ?_;rw[Hkd.o];rintro e w' ⟨rfl,rfl⟩)
 have hj1:((k:Int)+1)=((k+1:Nat):Int):=by omega
 rw[hj1];clear hj1
 go_wp2_with (go_at_call 103;refine(qAJ _ _ _ hs (by omega) (HK.o.below (B:=w.heap.size) (aR.alloc (by simp) _) HK.o.lt)).mono ?_;rintro e w' ⟨rfl,rfl⟩)
 go_loop [7,8] (fun i c=>∃(j:Nat),k<j/\j<=s.size/\i=.int .i64 j/\c=.int .u8 (qDs s j)/\Hid (run wb s j=qAM s k)) (fun i _=>s.size-(intOf i).toNat)
 case atStart=>exact⟨k+1,by omega,by omega,by go_num,rfl,hZ hE.o.symm⟩
 case round=>
  obtain⟨j,hj0,hj,rfl,rfl,hI⟩:=hrel;by_cases hm:qDs s j=3\/qDs s j=4\/qDs s j=5
  ·have hjl:j<s.size:=by
    rcases Nat.lt_or_ge j s.size with h|h
    ·exact h
    ·rw[qFI s j h]at hm;omega
   have hwb:=hZ ((qLQ s j hjl).1 hm);have Hm:=hZ hm;clear hm;generalize qDs s j=kk at *;rcases Hm.o with h|h|h
   all_goals
    subst h;clear Hm
    go_wp2_with fail
    refine(qJk s (j+1) _ (by omega) _ hs (by omega) (HK.o.below (B:=w.heap.size) (aR.alloc (by simp) _) HK.o.lt)).mono ?_;rintro e w' ⟨rfl,rfl⟩
    go_wp2_with fail
    go_round
    case rel=>exact⟨j+1,by omega,by omega,by go_num,rfl,hZ (by rw[<-qDm wb s j hjl hwb.o,hI.o])⟩
    case measure=>simp[intOf];omega
  ·have hend:Hid (qAM s k=j):=hZ (by
    rw[<-hI.o];rcases Nat.lt_or_ge j s.size with h|h
    ·exact qEc wb s j h (by rw[qLQ s j h]at hm;simpa using hm)
    ·exact qIM wb s j h)
   have q3:(qDs s j==3)=false:=by rw[beq_eq_false_iff_ne];exact fun e=>hm (.inl e)
   have q4:(qDs s j==4)=false:=by rw[beq_eq_false_iff_ne];exact fun e=>hm (.inr (.inl e))
   have q5:(qDs s j==5)=false:=by rw[beq_eq_false_iff_ne];exact fun e=>hm (.inr (.inr e))
   clear hm;have hnx:=hZ (qId s k hk h1.o);by_cases hbig:16<j-k
   ·go_wp2_with fail
    refine bodyPost_ret (v:=.tuple #[qAN 0 ⟨#[]⟩ 0 k,.int .i64 4]) (by simp[results,Tryd.results81,go_sem,qAN]) rfl ⟨aR.alloc (by simp) _,.inl ⟨4,_,_,_,by rw[hnx.o,hend.o,if_pos hbig],rfl,.inr rfl⟩⟩
   ·go_wp2_with fail
    refine bodyPost_ret (v:=.tuple #[qAN 0 (s.extract k j) 0 k,.int .i64 0]) (by simp[results,Tryd.results81,go_sem,qAN]) rfl ⟨aR.alloc (by simp) _,.inr ⟨⟨0,(s.data.toList.drop k).take (j-k),0,k⟩,by rw[hnx.o,hend.o,if_neg hbig],?_⟩⟩;have:j=k+(j-k):=by omega
    conv=>lhs;rw[this,qBZ]
theorem qIe(s:ByteArray)(k:Nat)(w:World)(hs:s.size<=4611686018427387904)(hk:k<s.size)(hK:qAT w)
 (h:Hid (cl s[k]≠1/\cl s[k]≠2/\cl s[k]≠4/\cl s[k]≠6)):
 Calls Tryd.prog 81 #[.string s,.int .i64 k] w (qCT s k w):=by
 have h3:(qDs s k==3)=false:=by rw[qBF s k hk,beq_eq_false_iff_ne];exact fun e=>h.o.1 ((qEK _).1 e)
 have h4:(qDs s k==4)=false:=by rw[qBF s k hk,beq_eq_false_iff_ne];exact fun e=>h.o.2.1 ((qEg _).1 e)
 have h7:(qDs s k==7)=false:=by rw[qBF s k hk,beq_eq_false_iff_ne];exact fun e=>h.o.2.2.1 ((qGf _).1 e)
 have h6:(qDs s k==6)=false:=by rw[qBF s k hk,beq_eq_false_iff_ne];exact fun e=>h.o.2.2.2 ((qHw _).1 e)
 have HK:=hZ hK;have hE:=hZ (qGX s k hk h.o.1 h.o.2.1 h.o.2.2.1 h.o.2.2.2);clear hK
 go_enter Tryd.func81,Tryd.ntmps81
 go_wp2_with (go_at_call 103;refine(qAJ _ _ _ hs (by omega) (HK.o.below (B:=w.heap.size) (aR.alloc (by simp) _) HK.o.lt)).mono ?_;rintro e w' ⟨rfl,rfl⟩)
 refine bodyPost_ret (v:=.tuple #[qAN 0 ⟨#[]⟩ 0 k,.int .i64 2]) (by simp[results,Tryd.results81,go_sem,qAN]) rfl ⟨aR.alloc (by simp) _,.inl ⟨2,_,_,_,qGO s k hk hE.o,rfl,.inl rfl⟩⟩
theorem qIf(s:ByteArray)(k:Nat)(w:World)(hs:s.size<=4611686018427387904)(hk:k<s.size)(hK:qAT w)(h6:Hid (cl s[k]=6)):
 Calls Tryd.prog 81 #[.string s,.int .i64 k] w (qCT s k w):=by
 have hkd:qDs s k=6:=by rw[qBF s k hk];exact(qHw _).2 h6.o
 have Hkd:=hZ hkd;have HK:=hZ hK;clear hkd hK;by_cases hlt:k+1<s.size
 ·by_cases hq:s[k+1].toNat=62
  ·have hE:=hZ (qGZ s k hlt h6.o hq)
   have hq':((s[k+1].toNat:Int) != 62)=false:=by simp[hq]
   clear hq
   go_enter Tryd.func81,Tryd.ntmps81
   go_wp2_with (go_at_call 103;refine(qAJ _ _ _ hs (by omega) (HK.o.below (B:=w.heap.size) (aR.alloc (by simp) _) HK.o.lt)).mono ?_;rw[Hkd.o];rintro e w' ⟨rfl,rfl⟩)
   refine bodyPost_ret (v:=.tuple #[qAN 2 (s.extract k (k+2)) 0 k,.int .i64 0]) (by simp[results,Tryd.results81,go_sem,qAN]) rfl ⟨aR.alloc (by simp) _,.inr ⟨_,qKl s k hk h6.o hE.o,?_⟩⟩;rw[qBZ]
  ·have hE:=hZ (qGY s k hlt h6.o hq)
   have hq':((s[k+1].toNat:Int) != 62)=true:=by rw[bne_iff_ne];omega
   clear hq
   go_enter Tryd.func81,Tryd.ntmps81
   go_wp2_with (go_at_call 103;refine(qAJ _ _ _ hs (by omega) (HK.o.below (B:=w.heap.size) (aR.alloc (by simp) _) HK.o.lt)).mono ?_;rw[Hkd.o];rintro e w' ⟨rfl,rfl⟩)
   refine bodyPost_ret (v:=.tuple #[qAN 2 ⟨#[]⟩ 0 k,.int .i64 2]) (by simp[results,Tryd.results81,go_sem,qAN]) rfl ⟨aR.alloc (by simp) _,.inl ⟨2,_,_,_,qGO s k hk hE.o,rfl,.inl rfl⟩⟩
 ·have hE:=hZ (qEQ s k hk (by omega) h6.o)
  go_enter Tryd.func81,Tryd.ntmps81
  go_wp2_with (go_at_call 103;refine(qAJ _ _ _ hs (by omega) (HK.o.below (B:=w.heap.size) (aR.alloc (by simp) _) HK.o.lt)).mono ?_;rw[Hkd.o];rintro e w' ⟨rfl,rfl⟩)
  refine bodyPost_ret (v:=.tuple #[qAN 2 ⟨#[]⟩ 0 k,.int .i64 2]) (by simp[results,Tryd.results81,go_sem,qAN]) rfl ⟨aR.alloc (by simp) _,.inl ⟨2,_,_,_,qGO s k hk hE.o,rfl,.inl rfl⟩⟩
theorem qKn(s:ByteArray)(k:Nat)(w:World)(hs:s.size<=4611686018427387904)(hk:k<s.size)(hK:qAT w):
 Calls Tryd.prog 81 #[.string s,.int .i64 k] w (qCT s k w):=by
 by_cases h1:cl s[k]=1
 ·exact qJc s k w hs hk hK (hZ h1)
 ·by_cases h2:cl s[k]=2
  ·exact qGQ s k w hs hk hK (hZ h2)
  ·by_cases h4:cl s[k]=4
   ·exact qGP s k w hs hk hK (hZ h4)
   ·by_cases h6:cl s[k]=6
    ·exact qIf s k w hs hk hK (hZ h6)
    ·exact qIe s k w hs hk hK (hZ ⟨h1,h2,h4,h6⟩)
open Go.RowKit Go.Shelf
attribute [local go_sem] Oper.semAt_some
def qLF(l bT:Nat)(R:Option Nat)(W W':World):Prop:=
 W.heap.size<=W'.heap.size/\∀k,k<W.heap.size->some k≠R->k≠l->k≠bT->W'.heap[k]? =W.heap[k]?
theorem qGu{W W':World}{k:Nat}(h:W'.heap[k]? =W.heap[k]?)(o:Nat):W'.cell? ⟨k,o,none⟩=W.cell? ⟨k,o,none⟩:=World.cell?_of_block (w:=W) h
def qK9(N:Nat)(ts:List Tok)(J:List Tok->Option Nat->World->Prop)(Jx:Nat->Int->World->Prop)(l:Bs)(W:World):Prop:=
 match lx N l with
 |.ok us=>∃R,J (ts++us) R W
 |.error (k,er)=>Jx k er W
theorem qEq(s:ByteArray)(k:Nat)(h:k<=s.size):s.size-(s.data.toList.drop k).length=k:=by
 have hl:s.data.toList.length=s.size:=by simp
 rw[List.length_drop];omega
theorem qKs(s:ByteArray)(k:Nat)(er:Int)(hlt:k<s.size)(hsk:sk false (s.data.toList.drop k)=s.data.toList.drop k)(hnx:nx k (s.data.toList.drop k)=.error er):
 lx s.size (s.data.toList.drop k)=.error (k,er):=by
 have hz:=qEq s k (by omega);rw[qCy,hsk];rw[qAE s k hlt]at hnx hz ⊢;simp only[];rw[hz,hnx]
theorem qMf(s:ByteArray)(k:Nat)(t:Tok)(hlt:k<s.size)(hsk:sk false (s.data.toList.drop k)=s.data.toList.drop k)(hnx:nx k (s.data.toList.drop k)=.ok t):
 lx s.size (s.data.toList.drop k)=match lx s.size (s.data.toList.drop (qAM s k))with
  |.error x=> .error x
  |.ok ts=> .ok (t::ts):=by
 have hz:=qEq s k (by omega);have he:s.data.toList.drop (qAM s k)=(s.data.toList.drop k).drop (tl (s.data.toList.drop k)):=by
  unfold qAM;rw[List.drop_drop]
 rw[he,qCy,hsk];rw[qAE s k hlt]at hnx hz ⊢;simp only[];rw[hz,hnx];rfl
theorem qIH(s:ByteArray)(k:Nat)(hk:k<=s.size):k<=qEW s false k:=by
 unfold qEW;have:=qC0 false (s.data.toList.drop k);have h2:=qEq s k hk;omega
theorem qLD(n:Nat)(hn:1<=n)(s:ByteArray)(hs:s.size<=4611686018427387904)(l bT bs n0:Nat)
 (J:List Tok->Option Nat->World->Prop)(Jx:Nat->Int->World->Prop)
 (hA:∀pre R W W',J pre R W->Below W.heap.size W W'->J pre R W')
 (hAx:∀k er W W',Jx k er W->Below W.heap.size W W'->Jx k er W')
 (hR:∀pre R W,J pre R W->(∀r,R=some r->n0<=r/\r<W.heap.size)/\n0<=W.heap.size/\qAT W/\W.cell? ⟨bs,0,none⟩=some (.string s))
 (hb:bs<n0/\l<n0/\bT<n0)
 (hY:∀pre R t W,pre.length<s.size->J pre R W->YieldAt Fence.wide (n-1) Tryd.prog l #[qAN t.kind ⟨t.text.toArray⟩ t.n t.at_,.int .i64 0] W fun e W'=>
  e=.returned (.bool true)/\∃R',J (pre++[t]) R' W'/\qLF l bT R W W')
 (hYe:∀pre R a b c (k:Nat) er W,J pre R W->(er=2\/er=4)->YieldAt Fence.wide (n-1) Tryd.prog l #[qAN a b c k,.int .i64 er] W fun e W'=>
  e=.returned (.bool false)/\Jx k er W')
 (W:World)(h0:J [] none W):
 CallsIn Fence.wide n Tryd.prog 79 #[.func (.yield l) #[] #[],.pointer (some ⟨bs,0,none⟩)] W fun e W'=>(∃v,e=.returned v)/\qK9 s.size [] J Jx s.data.toList W':=by
 have HA:=hZ hA;have HAx:=hZ hAx;have HR:=hZ hR;have HY:=hZ hY;have HYe:=hZ hYe;clear hA hAx hR hY hYe;obtain⟨hr0,hz0,hk0,hc0⟩:=HR.o _ _ _ h0;have Hk0:=hZ hk0;clear hk0 hr0;refine callsIn_of_wp Tryd.func79 rfl trivial ?_ rfl;simp only[Tryd.ntmps79,List.size_toArray,List.length_cons,List.length_nil,Nat.reduceAdd,Nat.reduceSub,Array.replicate_succ,Array.replicate_zero,List.push_toArray,List.append_toArray,List.nil_append,List.cons_append]
 gi_wp2_with (refine⟨trivial,?_⟩;gi_at_call 80;refine(callsIn_wide.2 (qHc s 0 _ hs (by omega) Hk0.o)).mono ?_;rintro e w' ⟨rfl,rfl⟩)
 gi_loopw [3] (fun i wr=>∃(k:Nat) (pre:List Tok) (R:Option Nat),k<=s.size/\pre.length<=k/\i=.int .i64 k/\Hid (J pre R wr)/\Hid (sk false (s.data.toList.drop k)=s.data.toList.drop k)/\Hid (∀W',qK9 s.size pre J Jx (s.data.toList.drop k) W'->qK9 s.size [] J Jx s.data.toList W')) (fun i _=>s.size-(intOf i).toNat)
 case atStart=>exact⟨qEW s false 0,[],none,qIG _ _ _,by simp,rfl,hZ h0,hZ (by rw[qDj,qFo]),hZ (fun W' h=>by rw[qDj]at h;unfold qK9 at h ⊢;rw[qDJ]at h;exact h)⟩
 case round=>
  obtain⟨k,pre,R,hk,hpk,rfl,hJ,hsk,hE⟩:=hrel;obtain⟨hr1,hz1,hk1,hc1⟩:=HR.o _ _ _ hJ.o;have Hk1:=hZ hk1;have Hr1:=hZ hr1;clear hk1 hr1 hc0 hz0 h0;by_cases hlt:k<s.size
  ·gi_wp2_with fail
   refine⟨trivial,?_⟩;refine(callsIn_wide.2 (qKn s k wr hs hlt Hk1.o)).mono ?_;rintro e w1 ⟨hB,⟨er,a,b,c,hnx,rfl,her⟩|⟨t,hnx,rfl⟩⟩
   ·have Hnx:=hZ hnx
    have HB:=hZ hB;clear hnx hB;have hJ1:Hid (J pre R (w1.alloc (.cells #[.int .i64 a,.string b,.int .i64 c,.int .i64 k] 55))):=hZ (HA.o _ _ _ _ hJ.o (HB.o.alloc HB.o.size _));obtain⟨fn,tmps,assign,body,hy,hR⟩:=HYe.o pre R a b c k er _ hJ1.o her;have HRy:=hZ hR;clear hR;unfold qAN at hy ⊢
    gi_wp2
    refine HRy.o.mono ?_;rintro e W3 ⟨rfl,hJx⟩
    gi_wp2
    refine bodyPost_ret (results_none rfl _ _ _) rfl ⟨⟨_,rfl⟩,hE.o _ ?_⟩;unfold qK9;rw[qKs s k er hlt hsk.o Hnx.o];exact hJx
   ·have Hnx:=hZ hnx
    obtain⟨h01,h02,h03⟩:=qEG hnx;have Htx:=hZ h02;have HB:=hZ hB;clear hnx hB h02;have hJ1:Hid (J pre R (w1.alloc (.cells #[.int .i64 t.kind,.string ⟨t.text.toArray⟩,.int .i64 t.n,.int .i64 k] 55))):=hZ (HA.o _ _ _ _ hJ.o (HB.o.alloc HB.o.size _));obtain⟨fn,tmps,assign,body,hy,hR⟩:=HY.o pre R t _ (by omega) hJ1.o;rw[h03]at hy;clear h03;have HRy:=hZ hR;clear hR;have hw1:wr.heap.size<=w1.heap.size:=HB.o.size;unfold qAN at hy ⊢
    gi_wp2
    refine HRy.o.mono ?_;rintro e W3 ⟨rfl,R',hJ3,hK3⟩;have HJ3:=hZ hJ3;obtain⟨hr3,hz3,hk3,hc3⟩:=HR.o _ _ _ hJ3;have Hk3:=hZ hk3;have HK3:=hZ hK3;clear hJ3 hr3 hk3 hK3 hy HRy;have htl:t.text.length=tl (s.data.toList.drop k):=by
     rw[Htx.o,List.length_take];have:=qHO (s.data.toList.drop k);omega
    have hen:k+t.text.length=qAM s k:=by unfold qAM;omega
    have hle:qAM s k<=s.size:=by
     have:=qHO (s.data.toList.drop k);have hl:s.data.toList.length=s.size:=by simp
     rw[List.length_drop]at this;unfold qAM;omega
    have hgt:k<qAM s k:=by omega
    have hsz:t.text.length<=s.size:=by omega
    have Hen:=hZ hen;clear hen htl h01;have hcell:W3.cell? ⟨w1.heap.size,1,none⟩=some (.string ⟨t.text.toArray⟩):=by
     have hne:some w1.heap.size≠R:=by
      intro e;have:=Hr1.o _ e.symm;omega
     have:=HK3.o.2 w1.heap.size (by simp) hne (by omega) (by omega);rw[qGu this];simp
    gi_wp2_with fail
    refine⟨trivial,?_⟩;rw[show((k:Int)+(t.text.length:Nat))=((qAM s k:Nat):Int)from by rw[<-Hen.o];omega];refine(callsIn_wide.2 (qHc s (qAM s k) W3 hs hle Hk3.o)).mono ?_;rintro e w' ⟨rfl,rfl⟩
    gi_wp2
    go_roundw
    case rel=>
     refine⟨qEW s false (qAM s k),pre++[t],R',qIG _ _ _,by have:=qIH s (qAM s k) hle;simp;omega,rfl,HJ3,hZ (by rw[qDj,qFo]),hZ (fun W' h=>hE.o _ ?_)⟩;rw[qDj]at h;unfold qK9 at h ⊢;rw[qDJ]at h;rw[qMf s k t hlt hsk.o Hnx.o];cases hx:lx s.size (s.data.toList.drop (qAM s k))with
     |error x=>rw[hx]at h;exact h
     |ok us=>rw[hx]at h;simpa using h
    case measure=>
     have:=qIH s (qAM s k) hle;simp[intOf];omega
  ·gi_wp2
   go_end0
   refine⟨⟨_,rfl⟩,hE.o _ ?_⟩;unfold qK9;rw[qDw s k (by omega)];exact⟨R,by simpa using hJ.o⟩
end Go.Proofs.YtpmnbcdjoomgcaaDoor
