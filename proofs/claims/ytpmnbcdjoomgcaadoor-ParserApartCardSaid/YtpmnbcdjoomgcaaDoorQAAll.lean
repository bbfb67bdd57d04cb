/- The lexer's iterator (the closure that all hands back), for every round that keeps its word. -/
import Derived.Test.YtpmnbcdjoomgcaaDoorQARefWalks
import Derived.Test.YtpmnbcdjoomgcaaDoorQAShelf
import Derived.RegionTactic
import Derived.ChangeAlike
import Derived.OwnWalkIn
import Derived.TacticsInMore
import Derived.LoopNIn
import Derived.LoopIn
set_option linter.unusedVariables false
set_option linter.unusedSimpArgs false
set_option maxHeartbeats 2000000
namespace Go.Proofs.YtpmnbcdjoomgcaaDoor
open Go.RowKit
def qA2(w:World):Prop:=∀k,k<128->w.cell? ⟨0,k,none⟩=some (.int .u8 (kindsL.getD k 0))
theorem qA2.lt{w:World}(h:qA2 w):0<w.heap.size:=World.block_lt_of_cell? w _ (h 0 (by omega))
theorem qA2.below{w w':World}(h:qA2 w){B:Nat}(hb:Below B w w')(hB:0<B):qA2 w':=
 fun k hk=>(hb.cell (p:=⟨0,k,none⟩) hB).trans (h k hk)
def qC3(s:ByteArray)(k:Nat):Int:=if h:k<s.size then kd s[k]else 0
theorem qBr(s:ByteArray)(k:Nat)(h:k<s.size):qC3 s k=kd s[k]:=by unfold qC3;rw[dif_pos h]
theorem qFf(s:ByteArray)(k:Nat)(h:s.size<=k):qC3 s k=0:=by unfold qC3;rw[dif_neg (by omega)]
theorem qAG(s:ByteArray)(k:Nat)(w:World)(_hs:s.size<=4611686018427387904)(_hk:k<=4611686018427387905)(hK:qA2 w):
 Calls Tryd.prog 103 #[.string s,.int .i64 k] w fun e w'=>e=.returned (.int .u8 (qC3 s k))/\w=w':=by
 have HK:=hZ hK;clear hK;by_cases hlt:k<s.size
 ·have hE:=hZ (qBr s k hlt)
  by_cases h8:s[k].toNat<128
  ·have hc:=HK.o s[k].toNat h8
   have hf:Hid (kindsL.getD s[k].toNat 0=kd s[k]):=hZ (by unfold kd;rw[if_pos h8]);generalize kindsL.getD s[k].toNat 0=v at *
   go_enter Tryd.func103,Tryd.ntmps103
   go_wp2
   go_ret;exact⟨qBY (by rw[hE.o,<-hf.o]),rfl⟩
  ·have hf:Hid (0=kd s[k]):=hZ (by unfold kd;rw[if_neg h8])
   go_enter Tryd.func103,Tryd.ntmps103
   go_wp2
   go_ret;exact⟨qBY (by rw[hE.o,<-hf.o]),rfl⟩
 ·have hE:=hZ (qFf s k (by omega))
  go_enter Tryd.func103,Tryd.ntmps103
  go_wp2
  go_ret;exact⟨qBY (by rw[hE.o]),rfl⟩
theorem qIu(s:ByteArray)(n:Nat)(a:Int)(ha:a=n)(w:World)(hs:s.size<=4611686018427387904)(hk:n<=4611686018427387905)(hK:qA2 w):
 Calls Tryd.prog 103 #[.string s,.int .i64 a] w fun e w'=>e=.returned (.int .u8 (qC3 s n))/\w=w':=by
 subst ha;exact qAG s n w hs hk hK
theorem qGV(c:UInt8):kd c=1 ↔ cl c=0:=by have:=qBN c;rw[qGr];unfold qI2;omega
theorem qGq(c:UInt8):kd c=2 ↔ cl c=5:=by have:=qBN c;rw[qGr];unfold qI2;omega
theorem qEg(c:UInt8):kd c=3 ↔ cl c=1:=by have:=qBN c;rw[qGr];unfold qI2;omega
theorem qDR(c:UInt8):kd c=4 ↔ cl c=2:=by have:=qBN c;rw[qGr];unfold qI2;omega
theorem qJA(c:UInt8):kd c=5 ↔ cl c=3:=by have:=qBN c;rw[qGr];unfold qI2;omega
theorem qGU(c:UInt8):kd c=6 ↔ cl c=6:=by have:=qBN c;rw[qGr];unfold qI2;omega
theorem qFM(c:UInt8):kd c=7 ↔ cl c=4:=by have:=qBN c;rw[qGr];unfold qI2;omega
def qBB(s:ByteArray)(k:Nat):Nat:=run (fun c=>c != 10) s k
theorem qC5:∀(l:Bs),Lib.indexByte l 10=if ((l.takeWhile (fun c=>c != 10)).length<l.length)then ((l.takeWhile (fun c=>c != 10)).length:Int)else -1
 |[]=>by simp[Lib.indexByte]
 |c::l=>by
  have ih:=qC5 l;unfold Lib.indexByte;by_cases h:c=10
  ·subst h;simp
  ·have h1:(c==10)=false:=by simp[h]
   have h2:(c != 10)=true:=by simp[h]
   rw[List.takeWhile_cons];simp only[h1,h2,if_true,Bool.false_eq_true,if_false,List.length_cons];rw[ih];by_cases hl:(l.takeWhile (fun c=>c != 10)).length<l.length
   ·have hl':(l.takeWhile (fun c=>c != 10)).length+1<l.length+1:=by omega
    have hne:((((l.takeWhile (fun c=>c != 10)).length:Nat):Int)== -1)=false:=by rw[beq_eq_false_iff_ne];omega
    simp only[hl,hl',if_true,hne,Bool.false_eq_true,if_false];omega
   ·have hl':¬(l.takeWhile (fun c=>c != 10)).length+1<l.length+1:=by omega
    simp[hl]
def qJn(s:ByteArray)(k:Nat):Int:=if qBB s k<s.size then (qBB s k-k:Nat)else -1
theorem qKH(s:ByteArray)(k:Nat)(w:World)(hk:k<=s.size):
 Calls Tryd.prog 104 #[.string (s.extract k s.size),.int .u8 10] w fun e w'=>e=.returned (.int .i64 (qJn s k))/\w=w':=by
 refine(Tryd.strings_IndexByte (s.extract k s.size) 10 w).mono ?_;rintro e w' ⟨rfl,rfl⟩;refine⟨qBY ?_,rfl⟩;have hl:s.data.toList.length=s.size:=by simp
 have hd:(s.extract k s.size).data.toList=s.data.toList.drop k:=by
  rw[ByteArray.data_extract,Array.toList_extract,List.extract_eq_take_drop,List.take_of_length_le];rw[List.length_drop];omega
 rw[hd]
 show Lib.indexByte (s.data.toList.drop k) 10=_
 rw[qC5];unfold qJn qBB run;rw[List.length_drop,hl];have:=(List.takeWhile_sublist (fun c:UInt8=>c != 10) (l:=s.data.toList.drop k)).length_le;rw[List.length_drop,hl]at this
 split<;>split<;>omega
theorem qHe(s:ByteArray)(k:Nat)(h:k<s.size)(hb:cl s[k]=0):qEs s false k=qEs s false (k+1):=by
 unfold qEs;rw[qAC s k h,qEY _ _ hb]
theorem qHd(s:ByteArray)(k:Nat)(h:k<s.size)(h0:cl s[k]≠0)(h5:cl s[k]≠5):qEs s false k=k:=
 qDX s false k (by omega) (by rw[qAC s k h,qHR _ _ h0 h5])
theorem qEx(p:UInt8->Bool)(l:Bs):l.drop (l.takeWhile p).length=l.dropWhile p:=by
 induction l with
 |nil=>rfl
 |cons c l ih=>
  rw[List.takeWhile_cons,List.dropWhile_cons];by_cases h:p c=true
  ·rw[if_pos h,if_pos h,List.length_cons,List.drop_succ_cons];exact ih
  ·rw[if_neg h,if_neg h];rfl
theorem qJE(p:UInt8->Bool)(s:ByteArray)(k:Nat):s.data.toList.drop (run p s k)=(s.data.toList.drop k).dropWhile p:=by
 unfold run;rw[<-List.drop_drop,qEx]
theorem qFs(s:ByteArray)(k:Nat)(h:k<s.size)(h5:cl s[k]=5):qEs s false k=qEs s false (qBB s k):=by
 have h10:s[k] != 10:=by
  have:=(qCO s[k]).1.1 h5;simp only[bne_iff_ne,ne_eq];intro e;rw[e]at this;revert this;decide
 unfold qEs qBB;rw[qJE,qAC s k h,qJ9 _ _ h5,qEB,List.dropWhile_cons,if_pos h10]
theorem qIr(s:ByteArray)(k:Nat)(h:k<s.size)(h5:cl s[k]=5):k<qBB s k:=by
 have h10:(s[k] != 10)=true:=by
  have:=(qCO s[k]).1.1 h5;simp only[bne_iff_ne,ne_eq];intro e;rw[e]at this;revert this;decide
 unfold qBB;rw[qCW _ s k h h10];exact qKE _ _ _
theorem qGI(s:ByteArray)(k0:Nat)(w:World)(hs:s.size<=4611686018427387904)(hk0:k0<=s.size)(hK:qA2 w):
 Calls Tryd.prog 80 #[.string s,.int .i64 k0] w fun e w'=>e=.returned (.int .i64 (qEs s false k0))/\w=w':=by
 have HK:=hZ hK;clear hK
 go_enter Tryd.func80,Tryd.ntmps80
 go_wp2
 go_loop [1] (fun i=>∃(k:Nat),k<=s.size/\i=.int .i64 k/\Hid (qEs s false k=qEs s false k0)) (fun i=>s.size-(intOf i).toNat)
 case atStart=>exact⟨k0,hk0,rfl,rfl⟩
 case round=>
  obtain⟨k,hk,rfl,hI⟩:=hrel;by_cases hlt:k<s.size
  ·have hE:=hZ (qBr s k hlt)
   generalize hg:qC3 s k=kk at *;have Hg:=hZ hg;clear hg;have hnl:qJn s k<=s.size-k:=by
    have:=qHZ (fun c=>c != 10) s k hk;have h2:qBB s k=run (fun c=>c != 10) s k:=rfl;unfold qJn;split<;>omega
   have hn0:=hZ (rfl:qJn s k=qJn s k);generalize hn:qJn s k=nl at hnl;have Hn:=hZ hn;clear hn hn0
   go_wp2_with (first|(go_at_call 103;refine(qAG _ _ _ hs (by omega) HK.o).mono ?_;rw[Hg.o];rintro e w' ⟨rfl,rfl⟩)|(go_at_call 104;refine(qKH _ _ _ hk).mono ?_;rw[Hn.o];rintro e w' ⟨rfl,rfl⟩))
   ·have q:(kk==1)=true:=by assumption
    have hc:cl s[k]=0:=(qGV _).1 (by rw[<-hE.o];simpa using q)
    go_round
    case rel=>exact⟨k+1,by omega,by go_num,hZ (by rw[<-qHe s k hlt hc,hI.o])⟩
    case measure=>simp[intOf];omega
   ·have q:(kk==2)=true:=by assumption
    have q2:nl<0:=by assumption
    have hc:cl s[k]=5:=(qGq _).1 (by rw[<-hE.o];simpa using q);go_ret;refine⟨qBY ?_,rfl⟩;rw[<-hI.o,qFs s k hlt hc];have h1:qBB s k<=s.size:=qHZ _ s k hk;have h2:¬qBB s k<s.size:=by
     intro h;rw[<-Hn.o]at q2;unfold qJn at q2;rw[if_pos h]at q2;omega
    have h3:qBB s k=s.size:=by omega
    rw[h3,qDX s false s.size (Nat.le_refl _) (by rw[qC7 s _ (Nat.le_refl _)];rfl)]
   ·have q:(kk==2)=true:=by assumption
    have q2:0<=nl:=by assumption
    have hc:cl s[k]=5:=(qGq _).1 (by rw[<-hE.o];simpa using q);have h1:qBB s k<=s.size:=qHZ _ s k hk;have h0:=qIr s k hlt hc;have h2:nl=(qBB s k:Int)-k:=by
     rw[<-Hn.o]at q2 ⊢;unfold qJn at q2 ⊢;by_cases h:qBB s k<s.size
     ·rw[if_pos h];omega
     ·rw[if_neg h]at q2;omega
    go_round
    case rel=>exact⟨qBB s k,h1,by rw[h2];go_num,hZ (by rw[<-qFs s k hlt hc,hI.o])⟩
    case measure=>simp[intOf];omega
   ·have q1:(kk==1)=false:=by assumption
    have q2:(kk==2)=false:=by assumption
    have h0:cl s[k]≠0:=fun h=>by rw[<-qGV,<-hE.o]at h;simp[h]at q1
    have h5:cl s[k]≠5:=fun h=>by rw[<-qGq,<-hE.o]at h;simp[h]at q2
    go_ret;exact⟨qBY (by rw[<-hI.o,qHd s k hlt h0 h5]),rfl⟩
  ·go_wp2
   go_ret;exact⟨qBY (by rw[<-hI.o,qDX s false k hk (by rw[qC7 s k (by omega)];rfl)]),rfl⟩
def qAI(a:Int)(b:ByteArray)(c d:Int):Value:=.agg #[.int .i64 a,.string b,.int .i64 c,.int .i64 d]
def qCz(s:ByteArray)(k:Nat)(w:World)(e:Ending)(w':World):Prop:=
 Below w.heap.size w w'/\((∃er a b c,nx k (s.data.toList.drop k)=.error er/\e=.returned (.tuple #[qAI a b c k,.int .i64 er])/\(er=2\/er=4))\/
  (∃t,nx k (s.data.toList.drop k)=.ok t/\e=.returned (.tuple #[qAI t.kind ⟨t.text.toArray⟩ t.n k,.int .i64 0])))
theorem qBM(s:ByteArray)(k n:Nat):s.extract k (k+n)=⟨((s.data.toList.drop k).take n).toArray⟩:=by
 apply ByteArray.ext;rw[ByteArray.data_extract];apply Array.ext';rw[Array.toList_extract,List.extract_eq_take_drop];simp
theorem qFq(s:ByteArray)(k:Nat):tl (s.data.toList.drop k)=qAH s k-k:=by unfold qAH;omega
theorem qIj(s:ByteArray)(k:Nat)(hk:k<s.size)(h4:cl s[k]=4):nx k (s.data.toList.drop k)=.ok ⟨2,(s.data.toList.drop k).take 1,0,k⟩:=by
 have h1:tl (s.data.toList.drop k)=1:=by rw[qFq,qDD s k hk h4];omega
 rw[qAC s k hk]at h1 ⊢;unfold nx;simp only[h1,h4];rfl
theorem qGm(s:ByteArray)(k:Nat)(w:World)(hs:s.size<=4611686018427387904)(hk:k<s.size)(hK:qA2 w)(h4:Hid (cl s[k]=4)):
 Calls Tryd.prog 81 #[.string s,.int .i64 k] w (qCz s k w):=by
 have hkd:qC3 s k=7:=by rw[qBr s k hk];exact(qFM _).2 h4.o
 have Hkd:=hZ hkd;have HK:=hZ hK;have hE:=hZ (qDD s k hk h4.o);clear hkd hK
 go_enter Tryd.func81,Tryd.ntmps81
 go_wp2_with (go_at_call 103;refine(qAG _ _ _ hs (by omega) (HK.o.below (B:=w.heap.size) (aR.alloc (by simp) _) HK.o.lt)).mono ?_;rw[Hkd.o];rintro e w' ⟨rfl,rfl⟩)
 refine bodyPost_ret (v:=.tuple #[qAI 2 (s.extract k (k+1)) 0 k,.int .i64 0]) (by simp[results,Tryd.results81,go_sem,qAI]) rfl ⟨aR.alloc (by simp) _,.inr ⟨_,qIj s k hk h4.o,?_⟩⟩;rw[qBM]
theorem qKL(s:ByteArray)(k:Nat)(h:k<s.size):(qC3 s k=3\/qC3 s k=4\/qC3 s k=5) ↔ wb s[k]=true:=by
 rw[qBr s k h,qEg,qDR,qJA];have:=qBN s[k];simp only[wb,Bool.and_eq_true,decide_eq_true_eq];omega
theorem qKM(s:ByteArray)(k:Nat)(h:k<s.size):qC3 s k=4 ↔ db s[k]=true:=by
 rw[qBr s k h,qDR];simp[db]
theorem qEZ(w:World)(n:Nat)(a:Addr)(v:Value):(w.drewN n).setCell a v=(w.setCell a v).drewN n:=rfl
theorem qGD(w:World)(n:Nat)(o:Obj):(w.drewN n).alloc o=(w.alloc o).drewN n:=rfl
attribute [local go_sem] qEZ qGD
def qEp(s:ByteArray)(k q:Nat):Nat:=dv 0 ((s.data.toList.drop k).take (q-k))
theorem qFV(s:ByteArray)(k:Nat):qEp s k k=0:=by unfold qEp;rw[Nat.sub_self];rfl
theorem qII(s:ByteArray)(k q:Nat)(h:k<=q)(hq:q<s.size):qEp s k (q+1)=10*qEp s k q+dg s[q]:=by
 unfold qEp;have h1:q+1-k=(q-k)+1:=by omega
 have hl:s.data.toList.length=s.size:=by simp
 rw[h1,List.take_succ_eq_append_getElem (by rw[List.length_drop];omega),qIG]
 congr 2
 rw[List.getElem_drop];have:k+(q-k)=q:=by omega
 simp only[this];rfl
theorem qH1(p:UInt8->Bool)(s:ByteArray)(q:Nat)(hq:q<s.size):∀(d k:Nat),k+d=q->q<run p s k->p s[q]=true
 |0,k,hd,h=>by
  obtain rfl:k=q:=by omega
  cases hp:p s[k]with
  |true=>rfl
  |false=>rw[qDO p s k hq hp]at h;omega
 |d+1,k,hd,h=>by
  cases hp:p (s[k]'(by omega))with
  |true=>exact qH1 p s q hq d (k+1) (by omega) (by rw[<-qCW p s k (by omega) hp];exact h)
  |false=>rw[qDO p s k (by omega) hp]at h;omega
theorem qKS(s:ByteArray)(k q:Nat)(hk:k<s.size)(h2:cl s[k]=2)(hq:k<=q)(hr:q<run db s (k+1))(hqs:q<s.size):48<=s[q].toNat/\s[q].toNat<=57:=by
 have hr':q<run db s k:=by rw[qCW db s k hk (by simp[db,h2])];exact hr
 have:=qH1 db s q hqs (q-k) k (by omega) hr';exact(qCO _).2.2.2.1 (by simpa[db]using this)
theorem qIH:∀(l l':Bs) (n:Nat),dv n l<=dv n (l++l')
 |[],l',n=>by
  have:∀(l:Bs) (n:Nat),n<=dv n l:=by
   intro l
   induction l with
   |nil=>intro n;exact Nat.le_refl _
   |cons c l ih=>intro n;rw[qDr];have:=ih (10*n+dg c);omega
  exact this _ _
 |c::l,l',n=>by rw[List.cons_append,qDr,qDr];exact qIH l l' _
theorem qIJ(s:ByteArray)(k a b:Nat)(h:a<=b):qEp s k a<=qEp s k b:=by
 unfold qEp;have h1:a-k<=b-k:=by omega
 have h2:(s.data.toList.drop k).take (a-k)=((s.data.toList.drop k).take (b-k)).take (a-k):=by rw[List.take_take,Nat.min_eq_left h1]
 rw[h2]
 conv=>rhs;rw[<-List.take_append_drop (a-k) ((s.data.toList.drop k).take (b-k))]
 exact qIH _ _ _
theorem qFJ(s:ByteArray)(k:Nat)(hk:k<s.size)(h2:cl s[k]=2):nx k (s.data.toList.drop k)=
 if qEp s k (qAH s k)>1099511627776 then .error 4 else .ok ⟨1,(s.data.toList.drop k).take (qAH s k-k),qEp s k (qAH s k),k⟩:=by
 have h0:tl (s.data.toList.drop k)≠0:=by rw[qAC s k hk,tl,if_neg (by omega),if_pos h2];omega
 unfold qEp;rw[<-qFq];rw[qAC s k hk]at h0 ⊢;unfold nx;simp only[];rw[if_neg h0,if_neg (by omega),if_pos h2]
theorem qFb(s:ByteArray)(k q:Nat)(hk:k<s.size)(h2:cl s[k]=2)(_hq0:k<=q)(hq:q<qAH s k)(hN:qEp s k (q+1)>1099511627776):nx k (s.data.toList.drop k)=.error 4:=by
 have:=qIJ s k (q+1) (qAH s k) hq;rw[qFJ s k hk h2,if_pos (by omega)]
theorem qIk(s:ByteArray)(k j:Nat)(hk:k<s.size)(h2:cl s[k]=2)(hj:qAH s k=j)(hN:qEp s k j<=1099511627776):nx k (s.data.toList.drop k)=.ok ⟨1,(s.data.toList.drop k).take (j-k),qEp s k j,k⟩:=by
 rw[qFJ s k hk h2,hj,if_neg (by omega)]
theorem qGn(s:ByteArray)(k:Nat)(w:World)(hs:s.size<=4611686018427387904)(hk:k<s.size)(hK:qA2 w)(h2:Hid (cl s[k]=2)):
 Calls Tryd.prog 81 #[.string s,.int .i64 k] w (qCz s k w):=by
 have hkd:qC3 s k=4:=by rw[qBr s k hk];exact(qDR _).2 h2.o
 have Hkd:=hZ hkd;have HK:=hZ hK;have hE:=hZ (qFU s k hk h2.o);clear hkd hK
 go_enter Tryd.func81,Tryd.ntmps81
 go_wp2_with (go_at_call 103;refine(qAG _ _ _ hs (by omega) (HK.o.below (B:=w.heap.size) (aR.alloc (by simp) _) HK.o.lt)).mono ?_;rw[Hkd.o];rintro e w' ⟨rfl,rfl⟩)
 go_loop [7] (fun i=>∃(j:Nat),k<j/\j<=s.size/\i=.int .i64 j/\Hid (run db s j=qAH s k)) (fun i=>s.size-(intOf i).toNat)
 case atStart=>exact⟨k+1,by omega,by omega,by go_num,hZ hE.o.symm⟩
 case round=>
  obtain⟨j,hj0,hj,rfl,hI⟩:=hrel;by_cases hm:qC3 s j=4
  ·have Hm:=hZ hm
   have hjl:j<s.size:=by
    rcases Nat.lt_or_ge j s.size with h|h
    ·exact h
    ·rw[qFf s j h]at hm;omega
   have hdb:=hZ ((qKM s j hjl).1 hm);clear hm
   go_wp2_with (go_at_call 103;refine(qAG _ _ _ hs (by omega) (HK.o.below (B:=w.heap.size) (aR.alloc (by simp) _) HK.o.lt)).mono ?_;rw[Hm.o];rintro e w' ⟨rfl,rfl⟩)
   go_round
   case rel=>exact⟨j+1,by omega,by omega,by go_num,hZ (by rw[<-qCW db s j hjl hdb.o,hI.o])⟩
   case measure=>simp[intOf];omega
  ·have hm':(qC3 s j==4)=false:=by simp[hm]
   have hend:Hid (qAH s k=j):=hZ (by
    rw[<-hI.o];rcases Nat.lt_or_ge j s.size with h|h
    ·exact qDO db s j h (by rw[qKM s j h]at hm;simpa using hm)
    ·exact qH0 db s j h)
   clear hm
   go_wp2_with (go_at_call 103;refine(qAG _ _ _ hs (by omega) (HK.o.below (B:=w.heap.size) (aR.alloc (by simp) _) HK.o.lt)).mono ?_;rintro e w' ⟨rfl,rfl⟩)
   go_loopw [9] (fun i wr=>∃(q m:Nat),k<=q/\q<=j/\i=.int .i64 q/\Hid (wr=((w.alloc (.cells #[.int .i64 0,.string ⟨#[]⟩,.int .i64 0,.int .i64 0] 55)).alloc (.cells #[.int .i64 1,.string ⟨#[]⟩,.int .i64 (qEp s k q),.int .i64 k] 55)).drewN m)/\qEp s k q<=1099511627776) (fun i _=>s.size-(intOf i).toNat)
   case atStart=>exact⟨k,0,Nat.le_refl _,by omega,rfl,hZ (by rw[qFV];rfl),by rw[qFV];omega⟩
   case round=>
    obtain⟨q,m,hq0,hq,rfl,hw,hN⟩:=hrel;have hw':=hw.o;subst hw';clear hw;by_cases hlt:q<j
    ·have hqs:q<s.size:=by omega
     have hd:=qKS s k q hk h2.o hq0 (by rw[<-hE.o,hend.o];exact hlt) hqs;have hst:((qEp s k q:Nat):Int)*10+((s[q].toNat:Nat)-48)%256=((qEp s k (q+1):Nat):Int):=by
      rw[qII s k q hq0 hqs,qKq];omega
     have Hst:=hZ hst;clear hst hd
     go_wp2
     go_region
     rw[Hst.o];by_cases hbig:qEp s k (q+1)<=1099511627776
     ·generalize hN':qEp s k (q+1)=N' at *
      have HN':=hZ hN';clear hN'
      go_wp2
      go_roundw
      case rel=>exact⟨q+1,m+1,by omega,by omega,by go_num,hZ (by rw[HN'.o]),by rw[HN'.o];exact hbig⟩
      case measure=>simp[intOf];omega
     ·generalize hN':qEp s k (q+1)=N' at *
      have HN':=hZ hN';clear hN'
      go_wp2
      have hnx:=qFb s k q hk h2.o hq0 (by rw[hend.o];exact hlt) (by rw[HN'.o];omega);refine bodyPost_ret (v:=.tuple #[qAI 1 ⟨#[]⟩ N' k,.int .i64 4]) (by simp[results,Tryd.results81,go_sem,qAI]) rfl ⟨below_drewN (aR.alloc (by simp) _) _,.inl ⟨4,_,_,_,hnx,rfl,.inr rfl⟩⟩
    ·obtain rfl:q=j:=by omega
     go_wp2
     have hnx:=qIk s k q hk h2.o hend.o hN;refine bodyPost_ret (v:=.tuple #[qAI 1 (s.extract k q) (qEp s k q) k,.int .i64 0]) (by simp[results,Tryd.results81,go_sem,qAI]) rfl ⟨below_drewN (aR.alloc (by simp) _) _,.inr ⟨_,hnx,?_⟩⟩;have:q=k+(q-k):=by omega
     conv=>lhs;rw[this,qBM]
     rw[<-this]
theorem qHx(s:ByteArray)(k:Nat)(hk:k<s.size)(h1:cl s[k]=1):nx k (s.data.toList.drop k)=
 if qAH s k-k>16 then .error 4 else .ok ⟨0,(s.data.toList.drop k).take (qAH s k-k),0,k⟩:=by
 have h0:tl (s.data.toList.drop k)≠0:=by rw[qAC s k hk,tl,if_pos h1];omega
 rw[<-qFq];rw[qAC s k hk]at h0 ⊢;unfold nx;simp only[];rw[if_neg h0,if_pos h1]
theorem qGl(s:ByteArray)(k:Nat)(hk:k<s.size)(h:qAH s k=k):nx k (s.data.toList.drop k)=.error 2:=by
 have h0:tl (s.data.toList.drop k)=0:=by rw[qFq,h];omega
 rw[qAC s k hk]at h0 ⊢;unfold nx;simp only[];rw[if_pos h0]
theorem qJm(s:ByteArray)(k:Nat)(hk:k<s.size)(h6:cl s[k]=6)(h:qAH s k=k+2):nx k (s.data.toList.drop k)=.ok ⟨2,(s.data.toList.drop k).take 2,0,k⟩:=by
 have h0:tl (s.data.toList.drop k)=2:=by rw[qFq,h];omega
 rw[qAC s k hk]at h0 ⊢;unfold nx;simp only[h0];rw[if_neg (by omega),if_neg (by omega),if_neg (by omega)]
theorem qIm(s:ByteArray)(k:Nat)(w:World)(hs:s.size<=4611686018427387904)(hk:k<s.size)(hK:qA2 w)(h1:Hid (cl s[k]=1)):
 Calls Tryd.prog 81 #[.string s,.int .i64 k] w (qCz s k w):=by
 have hkd:qC3 s k=3:=by rw[qBr s k hk];exact(qEg _).2 h1.o
 have Hkd:=hZ hkd;have HK:=hZ hK;have hE:=hZ (qHG s k hk h1.o);clear hkd hK
 go_enter Tryd.func81,Tryd.ntmps81
 go_wp2_with (go_at_call 103;refine(qAG _ _ _ hs (by omega) (HK.o.below (B:=w.heap.size) (aR.alloc (by simp) _) HK.o.lt)).mono ?_;rw[Hkd.o];rintro e w' ⟨rfl,rfl⟩)
 have hj1:((k:Int)+1)=((k+1:Nat):Int):=by omega
 rw[hj1];clear hj1
 go_wp2_with (go_at_call 103;refine(qAG _ _ _ hs (by omega) (HK.o.below (B:=w.heap.size) (aR.alloc (by simp) _) HK.o.lt)).mono ?_;rintro e w' ⟨rfl,rfl⟩)
 go_loop [7,8] (fun i c=>∃(j:Nat),k<j/\j<=s.size/\i=.int .i64 j/\c=.int .u8 (qC3 s j)/\Hid (run wb s j=qAH s k)) (fun i _=>s.size-(intOf i).toNat)
 case atStart=>exact⟨k+1,by omega,by omega,by go_num,rfl,hZ hE.o.symm⟩
 case round=>
  obtain⟨j,hj0,hj,rfl,rfl,hI⟩:=hrel;by_cases hm:qC3 s j=3\/qC3 s j=4\/qC3 s j=5
  ·have hjl:j<s.size:=by
    rcases Nat.lt_or_ge j s.size with h|h
    ·exact h
    ·rw[qFf s j h]at hm;omega
   have hwb:=hZ ((qKL s j hjl).1 hm);have Hm:=hZ hm;clear hm;generalize qC3 s j=kk at *;rcases Hm.o with h|h|h
   all_goals
    subst h;clear Hm
    go_wp2_with fail
    refine(qIu s (j+1) _ (by omega) _ hs (by omega) (HK.o.below (B:=w.heap.size) (aR.alloc (by simp) _) HK.o.lt)).mono ?_;rintro e w' ⟨rfl,rfl⟩
    go_wp2_with fail
    go_round
    case rel=>exact⟨j+1,by omega,by omega,by go_num,rfl,hZ (by rw[<-qCW wb s j hjl hwb.o,hI.o])⟩
    case measure=>simp[intOf];omega
  ·have hend:Hid (qAH s k=j):=hZ (by
    rw[<-hI.o];rcases Nat.lt_or_ge j s.size with h|h
    ·exact qDO wb s j h (by rw[qKL s j h]at hm;simpa using hm)
    ·exact qH0 wb s j h)
   have q3:(qC3 s j==3)=false:=by rw[beq_eq_false_iff_ne];exact fun e=>hm (.inl e)
   have q4:(qC3 s j==4)=false:=by rw[beq_eq_false_iff_ne];exact fun e=>hm (.inr (.inl e))
   have q5:(qC3 s j==5)=false:=by rw[beq_eq_false_iff_ne];exact fun e=>hm (.inr (.inr e))
   clear hm;have hnx:=hZ (qHx s k hk h1.o);by_cases hbig:16<j-k
   ·go_wp2_with fail
    refine bodyPost_ret (v:=.tuple #[qAI 0 ⟨#[]⟩ 0 k,.int .i64 4]) (by simp[results,Tryd.results81,go_sem,qAI]) rfl ⟨aR.alloc (by simp) _,.inl ⟨4,_,_,_,by rw[hnx.o,hend.o,if_pos hbig],rfl,.inr rfl⟩⟩
   ·go_wp2_with fail
    refine bodyPost_ret (v:=.tuple #[qAI 0 (s.extract k j) 0 k,.int .i64 0]) (by simp[results,Tryd.results81,go_sem,qAI]) rfl ⟨aR.alloc (by simp) _,.inr ⟨⟨0,(s.data.toList.drop k).take (j-k),0,k⟩,by rw[hnx.o,hend.o,if_neg hbig],?_⟩⟩;have:j=k+(j-k):=by omega
    conv=>lhs;rw[this,qBM]
theorem qHy(s:ByteArray)(k:Nat)(w:World)(hs:s.size<=4611686018427387904)(hk:k<s.size)(hK:qA2 w)
 (h:Hid (cl s[k]≠1/\cl s[k]≠2/\cl s[k]≠4/\cl s[k]≠6)):
 Calls Tryd.prog 81 #[.string s,.int .i64 k] w (qCz s k w):=by
 have h3:(qC3 s k==3)=false:=by rw[qBr s k hk,beq_eq_false_iff_ne];exact fun e=>h.o.1 ((qEg _).1 e)
 have h4:(qC3 s k==4)=false:=by rw[qBr s k hk,beq_eq_false_iff_ne];exact fun e=>h.o.2.1 ((qDR _).1 e)
 have h7:(qC3 s k==7)=false:=by rw[qBr s k hk,beq_eq_false_iff_ne];exact fun e=>h.o.2.2.1 ((qFM _).1 e)
 have h6:(qC3 s k==6)=false:=by rw[qBr s k hk,beq_eq_false_iff_ne];exact fun e=>h.o.2.2.2 ((qGU _).1 e)
 have HK:=hZ hK;have hE:=hZ (qGt s k hk h.o.1 h.o.2.1 h.o.2.2.1 h.o.2.2.2);clear hK
 go_enter Tryd.func81,Tryd.ntmps81
 go_wp2_with (go_at_call 103;refine(qAG _ _ _ hs (by omega) (HK.o.below (B:=w.heap.size) (aR.alloc (by simp) _) HK.o.lt)).mono ?_;rintro e w' ⟨rfl,rfl⟩)
 refine bodyPost_ret (v:=.tuple #[qAI 0 ⟨#[]⟩ 0 k,.int .i64 2]) (by simp[results,Tryd.results81,go_sem,qAI]) rfl ⟨aR.alloc (by simp) _,.inl ⟨2,_,_,_,qGl s k hk hE.o,rfl,.inl rfl⟩⟩
theorem qHz(s:ByteArray)(k:Nat)(w:World)(hs:s.size<=4611686018427387904)(hk:k<s.size)(hK:qA2 w)(h6:Hid (cl s[k]=6)):
 Calls Tryd.prog 81 #[.string s,.int .i64 k] w (qCz s k w):=by
 have hkd:qC3 s k=6:=by rw[qBr s k hk];exact(qGU _).2 h6.o
 have Hkd:=hZ hkd;have HK:=hZ hK;clear hkd hK;by_cases hlt:k+1<s.size
 ·by_cases hq:s[k+1].toNat=62
  ·have hE:=hZ (qGv s k hlt h6.o hq)
   have hq':((s[k+1].toNat:Int) != 62)=false:=by simp[hq]
   clear hq
   go_enter Tryd.func81,Tryd.ntmps81
   go_wp2_with (go_at_call 103;refine(qAG _ _ _ hs (by omega) (HK.o.below (B:=w.heap.size) (aR.alloc (by simp) _) HK.o.lt)).mono ?_;rw[Hkd.o];rintro e w' ⟨rfl,rfl⟩)
   refine bodyPost_ret (v:=.tuple #[qAI 2 (s.extract k (k+2)) 0 k,.int .i64 0]) (by simp[results,Tryd.results81,go_sem,qAI]) rfl ⟨aR.alloc (by simp) _,.inr ⟨_,qJm s k hk h6.o hE.o,?_⟩⟩;rw[qBM]
  ·have hE:=hZ (qGu s k hlt h6.o hq)
   have hq':((s[k+1].toNat:Int) != 62)=true:=by rw[bne_iff_ne];omega
   clear hq
   go_enter Tryd.func81,Tryd.ntmps81
   go_wp2_with (go_at_call 103;refine(qAG _ _ _ hs (by omega) (HK.o.below (B:=w.heap.size) (aR.alloc (by simp) _) HK.o.lt)).mono ?_;rw[Hkd.o];rintro e w' ⟨rfl,rfl⟩)
   refine bodyPost_ret (v:=.tuple #[qAI 2 ⟨#[]⟩ 0 k,.int .i64 2]) (by simp[results,Tryd.results81,go_sem,qAI]) rfl ⟨aR.alloc (by simp) _,.inl ⟨2,_,_,_,qGl s k hk hE.o,rfl,.inl rfl⟩⟩
 ·have hE:=hZ (qEl s k hk (by omega) h6.o)
  go_enter Tryd.func81,Tryd.ntmps81
  go_wp2_with (go_at_call 103;refine(qAG _ _ _ hs (by omega) (HK.o.below (B:=w.heap.size) (aR.alloc (by simp) _) HK.o.lt)).mono ?_;rw[Hkd.o];rintro e w' ⟨rfl,rfl⟩)
  refine bodyPost_ret (v:=.tuple #[qAI 2 ⟨#[]⟩ 0 k,.int .i64 2]) (by simp[results,Tryd.results81,go_sem,qAI]) rfl ⟨aR.alloc (by simp) _,.inl ⟨2,_,_,_,qGl s k hk hE.o,rfl,.inl rfl⟩⟩
theorem qJo(s:ByteArray)(k:Nat)(w:World)(hs:s.size<=4611686018427387904)(hk:k<s.size)(hK:qA2 w):
 Calls Tryd.prog 81 #[.string s,.int .i64 k] w (qCz s k w):=by
 by_cases h1:cl s[k]=1
 ·exact qIm s k w hs hk hK (hZ h1)
 ·by_cases h2:cl s[k]=2
  ·exact qGn s k w hs hk hK (hZ h2)
  ·by_cases h4:cl s[k]=4
   ·exact qGm s k w hs hk hK (hZ h4)
   ·by_cases h6:cl s[k]=6
    ·exact qHz s k w hs hk hK (hZ h6)
    ·exact qHy s k w hs hk hK (hZ ⟨h1,h2,h4,h6⟩)
open Go.RowKit Go.Shelf
attribute [local go_sem] Oper.semAt_some
def qKz(l bT:Nat)(R:Option Nat)(W W':World):Prop:=
 W.heap.size<=W'.heap.size/\∀k,k<W.heap.size->some k≠R->k≠l->k≠bT->W'.heap[k]? =W.heap[k]?
theorem qF2{W W':World}{k:Nat}(h:W'.heap[k]? =W.heap[k]?)(o:Nat):W'.cell? ⟨k,o,none⟩=W.cell? ⟨k,o,none⟩:=World.cell?_of_block (w:=W) h
def qJ6(N:Nat)(ts:List Tok)(J:List Tok->Option Nat->World->Prop)(Jx:Nat->Int->World->Prop)(l:Bs)(W:World):Prop:=
 match lx N l with
 |.ok us=>∃R,J (ts++us) R W
 |.error (k,er)=>Jx k er W
theorem qDY(s:ByteArray)(k:Nat)(h:k<=s.size):s.size-(s.data.toList.drop k).length=k:=by
 have hl:s.data.toList.length=s.size:=by simp
 rw[List.length_drop];omega
theorem qJs(s:ByteArray)(k:Nat)(er:Int)(hlt:k<s.size)(hsk:sk false (s.data.toList.drop k)=s.data.toList.drop k)(hnx:nx k (s.data.toList.drop k)=.error er):
 lx s.size (s.data.toList.drop k)=.error (k,er):=by
 have hz:=qDY s k (by omega);rw[qEf,hsk];rw[qAC s k hlt]at hnx hz ⊢;simp only[];rw[hz,hnx]
theorem qLb(s:ByteArray)(k:Nat)(t:Tok)(hlt:k<s.size)(hsk:sk false (s.data.toList.drop k)=s.data.toList.drop k)(hnx:nx k (s.data.toList.drop k)=.ok t):
 lx s.size (s.data.toList.drop k)=match lx s.size (s.data.toList.drop (qAH s k))with
  |.error x=> .error x
  |.ok ts=> .ok (t::ts):=by
 have hz:=qDY s k (by omega);have he:s.data.toList.drop (qAH s k)=(s.data.toList.drop k).drop (tl (s.data.toList.drop k)):=by
  unfold qAH;rw[List.drop_drop]
 rw[he,qEf,hsk];rw[qAC s k hlt]at hnx hz ⊢;simp only[];rw[hz,hnx];rfl
theorem qHU(s:ByteArray)(k:Nat)(hk:k<=s.size):k<=qEs s false k:=by
 unfold qEs;have:=qDW false (s.data.toList.drop k);have h2:=qDY s k hk;omega
theorem qKw(n:Nat)(hn:1<=n)(s:ByteArray)(hs:s.size<=4611686018427387904)(l bT bs n0:Nat)
 (J:List Tok->Option Nat->World->Prop)(Jx:Nat->Int->World->Prop)
 (hA:∀pre R W W',J pre R W->Below W.heap.size W W'->J pre R W')
 (hAx:∀k er W W',Jx k er W->Below W.heap.size W W'->Jx k er W')
 (hR:∀pre R W,J pre R W->(∀r,R=some r->n0<=r/\r<W.heap.size)/\n0<=W.heap.size/\qA2 W/\W.cell? ⟨bs,0,none⟩=some (.string s))
 (hb:bs<n0/\l<n0/\bT<n0)
 (hY:∀pre R t W,pre.length<s.size->J pre R W->YieldAt Fence.wide (n-1) Tryd.prog l #[qAI t.kind ⟨t.text.toArray⟩ t.n t.at_,.int .i64 0] W fun e W'=>
  e=.returned (.bool true)/\∃R',J (pre++[t]) R' W'/\qKz l bT R W W')
 (hYe:∀pre R a b c (k:Nat) er W,J pre R W->(er=2\/er=4)->YieldAt Fence.wide (n-1) Tryd.prog l #[qAI a b c k,.int .i64 er] W fun e W'=>
  e=.returned (.bool false)/\Jx k er W')
 (W:World)(h0:J [] none W):
 CallsIn Fence.wide n Tryd.prog 79 #[.func (.yield l) #[] #[],.pointer (some ⟨bs,0,none⟩)] W fun e W'=>(∃v,e=.returned v)/\qJ6 s.size [] J Jx s.data.toList W':=by
 have HA:=hZ hA;have HAx:=hZ hAx;have HR:=hZ hR;have HY:=hZ hY;have HYe:=hZ hYe;clear hA hAx hR hY hYe;obtain⟨hr0,hz0,hk0,hc0⟩:=HR.o _ _ _ h0;have Hk0:=hZ hk0;clear hk0 hr0;refine callsIn_of_wp Tryd.func79 rfl trivial ?_ rfl;simp only[Tryd.ntmps79,List.size_toArray,List.length_cons,List.length_nil,Nat.reduceAdd,Nat.reduceSub,Array.replicate_succ,Array.replicate_zero,List.push_toArray,List.append_toArray,List.nil_append,List.cons_append]
 gi_wp2_with (refine⟨trivial,?_⟩;gi_at_call 80;refine(callsIn_wide.2 (qGI s 0 _ hs (by omega) Hk0.o)).mono ?_;rintro e w' ⟨rfl,rfl⟩)
 gi_loopw [3] (fun i wr=>∃(k:Nat) (pre:List Tok) (R:Option Nat),k<=s.size/\pre.length<=k/\i=.int .i64 k/\Hid (J pre R wr)/\Hid (sk false (s.data.toList.drop k)=s.data.toList.drop k)/\Hid (∀W',qJ6 s.size pre J Jx (s.data.toList.drop k) W'->qJ6 s.size [] J Jx s.data.toList W')) (fun i _=>s.size-(intOf i).toNat)
 case atStart=>exact⟨qEs s false 0,[],none,qHT _ _ _,by simp,rfl,hZ h0,hZ (by rw[qCU,qEX]),hZ (fun W' h=>by rw[qCU]at h;unfold qJ6 at h ⊢;rw[qDn]at h;exact h)⟩
 case round=>
  obtain⟨k,pre,R,hk,hpk,rfl,hJ,hsk,hE⟩:=hrel;obtain⟨hr1,hz1,hk1,hc1⟩:=HR.o _ _ _ hJ.o;have Hk1:=hZ hk1;have Hr1:=hZ hr1;clear hk1 hr1 hc0 hz0 h0;by_cases hlt:k<s.size
  ·gi_wp2_with fail
   refine⟨trivial,?_⟩;refine(callsIn_wide.2 (qJo s k wr hs hlt Hk1.o)).mono ?_;rintro e w1 ⟨hB,⟨er,a,b,c,hnx,rfl,her⟩|⟨t,hnx,rfl⟩⟩
   ·have Hnx:=hZ hnx
    have HB:=hZ hB;clear hnx hB;have hJ1:Hid (J pre R (w1.alloc (.cells #[.int .i64 a,.string b,.int .i64 c,.int .i64 k] 55))):=hZ (HA.o _ _ _ _ hJ.o (HB.o.alloc HB.o.size _));obtain⟨fn,tmps,assign,body,hy,hR⟩:=HYe.o pre R a b c k er _ hJ1.o her;have HRy:=hZ hR;clear hR;unfold qAI at hy ⊢
    gi_wp2
    refine HRy.o.mono ?_;rintro e W3 ⟨rfl,hJx⟩
    gi_wp2
    refine bodyPost_ret (results_none rfl _ _ _) rfl ⟨⟨_,rfl⟩,hE.o _ ?_⟩;unfold qJ6;rw[qJs s k er hlt hsk.o Hnx.o];exact hJx
   ·have Hnx:=hZ hnx
    obtain⟨h01,h02,h03⟩:=qGk hnx;have Htx:=hZ h02;have HB:=hZ hB;clear hnx hB h02;have hJ1:Hid (J pre R (w1.alloc (.cells #[.int .i64 t.kind,.string ⟨t.text.toArray⟩,.int .i64 t.n,.int .i64 k] 55))):=hZ (HA.o _ _ _ _ hJ.o (HB.o.alloc HB.o.size _));obtain⟨fn,tmps,assign,body,hy,hR⟩:=HY.o pre R t _ (by omega) hJ1.o;rw[h03]at hy;clear h03;have HRy:=hZ hR;clear hR;have hw1:wr.heap.size<=w1.heap.size:=HB.o.size;unfold qAI at hy ⊢
    gi_wp2
    refine HRy.o.mono ?_;rintro e W3 ⟨rfl,R',hJ3,hK3⟩;have HJ3:=hZ hJ3;obtain⟨hr3,hz3,hk3,hc3⟩:=HR.o _ _ _ hJ3;have Hk3:=hZ hk3;have HK3:=hZ hK3;clear hJ3 hr3 hk3 hK3 hy HRy;have htl:t.text.length=tl (s.data.toList.drop k):=by
     rw[Htx.o,List.length_take];have:=qI3 (s.data.toList.drop k);omega
    have hen:k+t.text.length=qAH s k:=by unfold qAH;omega
    have hle:qAH s k<=s.size:=by
     have:=qI3 (s.data.toList.drop k);have hl:s.data.toList.length=s.size:=by simp
     rw[List.length_drop]at this;unfold qAH;omega
    have hgt:k<qAH s k:=by omega
    have hsz:t.text.length<=s.size:=by omega
    have Hen:=hZ hen;clear hen htl h01;have hcell:W3.cell? ⟨w1.heap.size,1,none⟩=some (.string ⟨t.text.toArray⟩):=by
     have hne:some w1.heap.size≠R:=by
      intro e;have:=Hr1.o _ e.symm;omega
     have:=HK3.o.2 w1.heap.size (by simp) hne (by omega) (by omega);rw[qF2 this];simp
    gi_wp2_with fail
    refine⟨trivial,?_⟩;rw[show((k:Int)+(t.text.length:Nat))=((qAH s k:Nat):Int)from by rw[<-Hen.o];omega];refine(callsIn_wide.2 (qGI s (qAH s k) W3 hs hle Hk3.o)).mono ?_;rintro e w' ⟨rfl,rfl⟩
    gi_wp2
    go_roundw
    case rel=>
     refine⟨qEs s false (qAH s k),pre++[t],R',qHT _ _ _,by have:=qHU s (qAH s k) hle;simp;omega,rfl,HJ3,hZ (by rw[qCU,qEX]),hZ (fun W' h=>hE.o _ ?_)⟩;rw[qCU]at h;unfold qJ6 at h ⊢;rw[qDn]at h;rw[qLb s k t hlt hsk.o Hnx.o];cases hx:lx s.size (s.data.toList.drop (qAH s k))with
     |error x=>rw[hx]at h;exact h
     |ok us=>rw[hx]at h;simpa using h
    case measure=>
     have:=qHU s (qAH s k) hle;simp[intOf];omega
  ·gi_wp2
   go_end0
   refine⟨⟨_,rfl⟩,hE.o _ ?_⟩;unfold qJ6;rw[qC7 s k (by omega)];exact⟨R,by simpa using hJ.o⟩
end Go.Proofs.YtpmnbcdjoomgcaaDoor
