/- Walks of the reference's small functions: class, skip, end, value, Around. -/
import Derived.Test.YtpmnbcdjoomgcaaGreatDoorProg
import Derived.Test.YtpmnbcdjoomgcaaGreatDoorQPRef01
import Derived.WalkKit
import Derived.WalkSpells
import Derived.WalkLawsBesides
import Derived.Lib.Hide
set_option linter.unusedVariables false
set_option linter.unusedSimpArgs false
set_option maxHeartbeats 2000000
namespace Go.Proofs.YtpmnbcdjoomgcaaGreatDoor
open Go.RowKit
theorem qIU(c:Int)(w:World)(h0:0<=c)(h1:c<=255):
 Calls Tryz.prog 62 #[.int .u8 c] w fun e w'=>e=.returned (.int .i64 (cls c))/\w=w':=by
 go_enter Tryz.func62,Tryz.ntmps62
 go_wp2
 all_goals (go_ret;exact⟨qAJ (by first|(simp_all [cls];done)|(simp_all [cls];omega)),rfl⟩)
theorem qAG(c:UInt8)(w:World):
 Calls Tryz.prog 62 #[.int .u8 c.toNat] w fun e w'=>e=.returned (.int .i64 (cl c))/\w=w':=
 qIU c.toNat w (by omega) (by have:=UInt8.toNat_lt c;omega)
theorem qAF(s:ByteArray)(k:Nat)(h:k<s.size):s.data.toList.drop k=s[k]::s.data.toList.drop (k+1):=by
 rw[List.drop_eq_getElem_cons (by simpa using h)];rfl
theorem qCm(s:ByteArray)(k:Nat)(h:s.size<=k):s.data.toList.drop k=[]:=by
 rw[List.drop_eq_nil_iff];simpa using h
def qC1(s:ByteArray)(cm:Bool)(k:Nat):Nat:=s.size-(sk cm (s.data.toList.drop k)).length
theorem qFb(s:ByteArray)(cm:Bool)(k:Nat):qC1 s cm k<=s.size:=by unfold qC1;omega
theorem qCx(s:ByteArray)(cm:Bool)(k:Nat)(h:k<=s.size)(hh:sk cm (s.data.toList.drop k)=s.data.toList.drop k):qC1 s cm k=k:=by
 unfold qC1;rw[hh,List.length_drop];have:s.data.toList.length=s.size:=by simp
 omega
theorem qBz(s:ByteArray)(cm:Bool)(k:Nat):s.data.toList.drop (qC1 s cm k)=sk cm (s.data.toList.drop k):=by
 have hl:s.data.toList.length=s.size:=by simp
 obtain⟨p,hp⟩:=qDl cm (s.data.toList.drop k);have h2:sk cm (s.data.toList.drop k) <:+s.data.toList:=(qDl _ _).trans (List.drop_suffix _ _);obtain⟨q,hq⟩:=h2;have h3:qC1 s cm k=q.length:=by
  unfold qC1;have:=congrArg List.length hq;simp only[List.length_append]at this;omega
 rw[h3]
 conv=>lhs;arg 2;rw[<-hq]
 simp
theorem qDm(s:ByteArray)(cm:Bool)(k:Nat)(h:k<s.size)(hg:¬(nc cm s[k]=false/\cl s[k]≠0)):qC1 s cm k=qC1 s (nc cm s[k]) (k+1):=by
 unfold qC1;rw[qAF s k h,qCc,if_neg hg]
theorem qFJ(s:ByteArray)(cm:Bool)(k:Nat)(h:k<s.size)(hg:nc cm s[k]=false/\cl s[k]≠0):qC1 s cm k=k:=
 qCx s cm k (by omega) (by rw[qAF s k h,qCc,if_pos hg])
theorem qCW(b:Bool)(c:UInt8)(x y:Bool)(h35:(((c.toNat:Nat):Int)==35)=x)(h10:(((c.toNat:Nat):Int)==10)=y):
 nc b c=(if y then false else if x then true else b):=by
 subst h35;subst h10;unfold nc;by_cases h1:c.toNat=10
 ·simp[h1]
 ·by_cases h2:c.toNat=35
  ·simp[h2]
  ·have e1:(((c.toNat:Nat):Int)==10)=false:=by simp;omega
   have e2:(((c.toNat:Nat):Int)==35)=false:=by simp;omega
   simp[h1,h2,e1,e2]
theorem qB5(s:ByteArray)(k0:Nat)(w:World)(hs:s.size<=4611686018427387904)(hk0:k0<=s.size):
 Calls Tryz.prog 60 #[.string s,.int .i64 k0] w fun e w'=>e=.returned (.int .i64 (qC1 s false k0))/\w=w':=by
 go_enter Tryz.func60,Tryz.ntmps60
 go_wp2
 go_loop [1,5] (fun i c=>∃(k:Nat) (b:Bool),k<=s.size/\i=.int .i64 k/\c=.bool b/\Hid (qC1 s b k=qC1 s false k0)) (fun i _=>s.size-(intOf i).toNat)
 case atStart=>exact⟨k0,false,hk0,rfl,rfl,rfl⟩
 case round=>
  obtain⟨k,b,hk,rfl,rfl,hI⟩:=hrel;by_cases hlt:k<s.size
  ·go_wp2_with (go_at_call 62;refine(qAG _ _).mono ?_;rintro e w' ⟨rfl,rfl⟩)
   ·go_round
    case rel=>
     have e:=qCW b s[k] _ _ (by assumption) (by assumption);exact⟨k+1,true,by omega,by go_num,rfl,by rw[<-hI.o,qDm s b k hlt (by rw[e];simp),e];rfl⟩
    case measure=>simp[intOf];omega
   ·have e:=qCW b s[k] false true (by assumption) (by assumption)
    have hc:(cl s[k] != 0)=true:=by assumption
    go_ret;exact⟨qAJ (by rw[<-hI.o,qFJ s b k hlt (by rw[e];simpa using hc)]),rfl⟩
   ·have e:=qCW b s[k] false true (by assumption) (by assumption)
    have hc:(cl s[k] != 0)=false:=by assumption
    go_round
    case rel=>exact⟨k+1,false,by omega,by go_num,rfl,by rw[<-hI.o,qDm s b k hlt (by simp at hc;simp[hc]),e];rfl⟩
    case measure=>simp[intOf];omega
   ·have e:=qCW b s[k] false false (by assumption) (by assumption)
    have hb:b=true:=by assumption
    go_round
    case rel=>exact⟨k+1,true,by omega,by go_num,by simp,hZ (by rw[<-hI.o,qDm s b k hlt (by rw[e];simp[hb]),e];simp[hb])⟩
    case measure=>simp[intOf];omega
   ·have e:=qCW b s[k] false false (by assumption) (by assumption)
    have hb:¬b=true:=by assumption
    have hc:(cl s[k] != 0)=true:=by assumption
    go_ret;exact⟨qAJ (by rw[<-hI.o,qFJ s b k hlt (by rw[e];simp at hc hb;simp[hb,hc])]),rfl⟩
   ·have e:=qCW b s[k] false false (by assumption) (by assumption)
    have hb:¬b=true:=by assumption
    have hc:(cl s[k] != 0)=false:=by assumption
    go_round
    case rel=>exact⟨k+1,false,by omega,by go_num,by simp,hZ (by rw[<-hI.o,qDm s b k hlt (by simp at hc;simp[hc]),e];simp at hb;simp[hb])⟩
    case measure=>simp[intOf];omega
  ·go_wp2
   go_ret;exact⟨qAJ (by rw[<-hI.o,qCx s b k hk (by rw[qCm s k (by omega)];rfl)]),rfl⟩
def run(p:UInt8->Bool)(s:ByteArray)(k:Nat):Nat:=k+((s.data.toList.drop k).takeWhile p).length
theorem qH0(p:UInt8->Bool)(s:ByteArray)(k:Nat)(h:k<=s.size):run p s k<=s.size:=by
 unfold run;have h1:=(List.takeWhile_sublist p (l:=s.data.toList.drop k)).length_le;have hl:s.data.toList.length=s.size:=by simp
 rw[List.length_drop]at h1;omega
theorem qKV(p:UInt8->Bool)(s:ByteArray)(k:Nat):k<=run p s k:=by unfold run;omega
theorem qCe(p:UInt8->Bool)(s:ByteArray)(k:Nat)(h:k<s.size)(hp:p s[k]=true):run p s k=run p s (k+1):=by
 unfold run;rw[qAF s k h,List.takeWhile_cons,if_pos hp,List.length_cons];omega
theorem qCd(p:UInt8->Bool)(s:ByteArray)(k:Nat)(h:k<s.size)(hp:p s[k]=false):run p s k=k:=by
 unfold run;rw[qAF s k h,List.takeWhile_cons,if_neg (by simp[hp])];simp
theorem qFd(p:UInt8->Bool)(s:ByteArray)(k:Nat)(h:s.size<=k):run p s k=k:=by
 unfold run;rw[qCm s k h];simp
def qAb(s:ByteArray)(k:Nat):Nat:=k+tl (s.data.toList.drop k)
theorem qE5(s:ByteArray)(k:Nat)(h:k<s.size)(h1:cl s[k]=1):qAb s k=run wb s (k+1):=by
 unfold qAb run;rw[qAF s k h,tl,if_pos h1];omega
theorem qCI(s:ByteArray)(k:Nat)(h:k<s.size)(h1:cl s[k]=2):qAb s k=run db s (k+1):=by
 unfold qAb run;rw[qAF s k h,tl,if_neg (by omega),if_pos h1];omega
theorem qCH(s:ByteArray)(k:Nat)(h:k<s.size)(h1:cl s[k]=4):qAb s k=k+1:=by
 unfold qAb;rw[qAF s k h,tl,if_neg (by omega),if_neg (by omega),if_pos h1]
theorem qEz(s:ByteArray)(k:Nat)(h:k<s.size)(h1:cl s[k]≠1)(h2:cl s[k]≠2)(h4:cl s[k]≠4)(h6:cl s[k]≠6):qAb s k=k:=by
 unfold qAb;rw[qAF s k h,tl,if_neg h1,if_neg h2,if_neg h4,if_neg h6];omega
theorem qEB(s:ByteArray)(k:Nat)(h:k+1<s.size)(h1:cl s[k]=6)(h2:s[k+1].toNat=62):qAb s k=k+2:=by
 unfold qAb;rw[qAF s k (by omega),qAF s (k+1) h,tl,if_neg (by omega),if_neg (by omega),if_neg (by omega),if_pos h1,if_pos];simp[<-UInt8.toNat_inj,h2]
theorem qEA(s:ByteArray)(k:Nat)(h:k+1<s.size)(h1:cl s[k]=6)(h2:¬s[k+1].toNat=62):qAb s k=k:=by
 unfold qAb;rw[qAF s k (by omega),qAF s (k+1) h,tl,if_neg (by omega),if_neg (by omega),if_neg (by omega),if_pos h1,if_neg]
 ·omega
 ·simp[<-UInt8.toNat_inj,h2]
theorem qCJ(s:ByteArray)(k:Nat)(h0:k<s.size)(h:s.size<=k+1)(h1:cl s[k]=6):qAb s k=k:=by
 unfold qAb;rw[qAF s k h0,qCm s (k+1) h,tl,if_neg (by omega),if_neg (by omega),if_neg (by omega),if_pos h1,if_neg (by simp)];omega
theorem qKf(c:UInt8)(h1:1<=cl c)(h2:cl c<=3):wb c=true:=by simp[wb,h1,h2]
theorem qGL(c:UInt8)(h:cl c<1\/3<cl c):wb c=false:=by simp only[wb,Bool.and_eq_false_iff,decide_eq_false_iff_not];omega
theorem qCO(s:ByteArray)(k0:Nat)(w:World)(hs:s.size<=4611686018427387904)(hk0:k0<s.size):
 Calls Tryz.prog 61 #[.string s,.int .i64 k0] w fun e w'=>e=.returned (.int .i64 (qAb s k0))/\w=w':=by
 have hr:=qBI s[k0];by_cases h1:cl s[k0]=1
 ·have hI0:Hid (run wb s (k0+1)=qAb s k0):=hZ (qE5 s k0 hk0 h1).symm
  have hb1:(cl s[k0]==1)=true:=by simp[h1]
  clear h1
  go_enter Tryz.func61,Tryz.ntmps61
  go_wp2_with (go_at_call 62;refine(qAG _ _).mono ?_;rintro e w' ⟨rfl,rfl⟩)
  go_loop [5] (fun i=>∃(k:Nat),k<=s.size/\i=.int .i64 k/\Hid (run wb s k=qAb s k0)) (fun i=>s.size-(intOf i).toNat)
  case atStart=>exact⟨k0+1,by omega,by go_num,hI0⟩
  case round=>
   obtain⟨k,hk,rfl,hI⟩:=hrel;by_cases hlt:k<s.size
   ·go_wp2_with (go_at_call 62;refine(qAG _ _).mono ?_;rintro e w' ⟨rfl,rfl⟩)
    ·have q1:1<=cl s[k]:=by assumption
     have q2:cl s[k]<=3:=by assumption
     go_round
     case rel=>exact⟨k+1,by omega,by go_num,hZ (by rw[<-qCe wb s k hlt (qKf _ q1 q2),hI.o])⟩
     case measure=>simp[intOf];omega
    ·have q2:3<cl s[k]:=by assumption
     go_ret;exact⟨qAJ (by rw[<-hI.o,qCd wb s k hlt (qGL _ (.inr q2))]),rfl⟩
    ·have q2:cl s[k]<1:=by assumption
     go_ret;exact⟨qAJ (by rw[<-hI.o,qCd wb s k hlt (qGL _ (.inl q2))]),rfl⟩
   ·go_wp2_with (go_at_call 62;refine(qAG _ _).mono ?_;rintro e w' ⟨rfl,rfl⟩)
    go_ret;exact⟨qAJ (by rw[<-hI.o,qFd wb s k (by omega)]),rfl⟩
 ·have hb1:(cl s[k0]==1)=false:=by simp[h1]
  by_cases h2:cl s[k0]=2
  ·have hI0:Hid (run db s (k0+1)=qAb s k0):=hZ (qCI s k0 hk0 h2).symm
   have hb2:(cl s[k0]==2)=true:=by simp[h2]
   clear h1 h2
   go_enter Tryz.func61,Tryz.ntmps61
   go_wp2_with (go_at_call 62;refine(qAG _ _).mono ?_;rintro e w' ⟨rfl,rfl⟩)
   go_loop [5] (fun i=>∃(k:Nat),k<=s.size/\i=.int .i64 k/\Hid (run db s k=qAb s k0)) (fun i=>s.size-(intOf i).toNat)
   case atStart=>exact⟨k0+1,by omega,by go_num,hI0⟩
   case round=>
    obtain⟨k,hk,rfl,hI⟩:=hrel;by_cases hlt:k<s.size
    ·go_wp2_with (go_at_call 62;refine(qAG _ _).mono ?_;rintro e w' ⟨rfl,rfl⟩)
     ·have q1:(cl s[k]==2)=true:=by assumption
      go_round
      case rel=>exact⟨k+1,by omega,by go_num,hZ (by rw[<-qCe db s k hlt (by simpa[db]using q1),hI.o])⟩
      case measure=>simp[intOf];omega
     ·have q2:(cl s[k]==2)=false:=by assumption
      go_ret;exact⟨qAJ (by rw[<-hI.o,qCd db s k hlt (by simpa[db]using q2)]),rfl⟩
    ·go_wp2_with (go_at_call 62;refine(qAG _ _).mono ?_;rintro e w' ⟨rfl,rfl⟩)
     go_ret;exact⟨qAJ (by rw[<-hI.o,qFd db s k (by omega)]),rfl⟩
  ·have hb2:(cl s[k0]==2)=false:=by simp[h2]
   by_cases h4:cl s[k0]=4
   ·have hb4:(cl s[k0]==4)=true:=by simp[h4]
    have hE:=hZ (qCH s k0 hk0 h4);clear h1 h2 h4
    go_enter Tryz.func61,Tryz.ntmps61
    go_wp2_with (go_at_call 62;refine(qAG _ _).mono ?_;rintro e w' ⟨rfl,rfl⟩)
    go_ret;exact⟨qAJ (by rw[hE.o];omega),rfl⟩
   ·have hb4:(cl s[k0]==4)=false:=by simp[h4]
    by_cases h6:cl s[k0]=6
    ·have hb6:(cl s[k0]==6)=true:=by simp[h6]
     by_cases hlt:k0+1<s.size
     ·by_cases hq:s[k0+1].toNat=62
      ·have hE:=hZ (qEB s k0 hlt h6 hq)
       have hq':((s[k0+1].toNat:Int)==62)=true:=by simp[hq]
       clear h1 h2 h4 h6 hq
       go_enter Tryz.func61,Tryz.ntmps61
       go_wp2_with (go_at_call 62;refine(qAG _ _).mono ?_;rintro e w' ⟨rfl,rfl⟩)
       go_ret;exact⟨qAJ (by rw[hE.o];omega),rfl⟩
      ·have hE:=hZ (qEA s k0 hlt h6 hq)
       have hq':((s[k0+1].toNat:Int)==62)=false:=by simp;omega
       clear h1 h2 h4 h6 hq
       go_enter Tryz.func61,Tryz.ntmps61
       go_wp2_with (go_at_call 62;refine(qAG _ _).mono ?_;rintro e w' ⟨rfl,rfl⟩)
       go_ret;exact⟨qAJ (by rw[hE.o]),rfl⟩
     ·have hE:=hZ (qCJ s k0 hk0 (by omega) h6)
      clear h1 h2 h4 h6
      go_enter Tryz.func61,Tryz.ntmps61
      go_wp2_with (go_at_call 62;refine(qAG _ _).mono ?_;rintro e w' ⟨rfl,rfl⟩)
      go_ret;exact⟨qAJ (by rw[hE.o]),rfl⟩
    ·have hb6:(cl s[k0]==6)=false:=by simp[h6]
     have hE:=hZ (qEz s k0 hk0 h1 h2 h4 h6);clear h1 h2 h4 h6
     go_enter Tryz.func61,Tryz.ntmps61
     go_wp2_with (go_at_call 62;refine(qAG _ _).mono ?_;rintro e w' ⟨rfl,rfl⟩)
     go_ret;exact⟨qAJ (by rw[hE.o]),rfl⟩
theorem qJu(n d M:Nat)(hM:0<M):min (10*min n M+d) M=min (10*n+d) M:=by omega
def qJ7(l:Bs):Nat:=min (dv 0 l) 1099511627777
theorem qHm(s:ByteArray)(k:Nat)(h:k<s.size):s.data.toList.take (k+1)=s.data.toList.take k++[s[k]]:=by
 rw[List.take_succ_eq_append_getElem (by simpa using h)];rfl
theorem qIN(s:ByteArray)(k:Nat)(h:k<s.size):min (10*qJ7 (s.data.toList.take k)+dg s[k]) 1099511627777=qJ7 (s.data.toList.take (k+1)):=by
 unfold qJ7;rw[qHm s k h,qIL,qJu _ _ _ (by omega)]
theorem qHU(s:ByteArray)(w:World)(hs:s.size<=4611686018427387904)(hd:∀k (h:k<s.size),48<=s[k].toNat/\s[k].toNat<=57):
 Calls Tryz.prog 63 #[.string s] w fun e w'=>e=.returned (.int .i64 (qJ7 s.data.toList))/\w=w':=by
 have Hd:=hZ hd;clear hd
 go_enter Tryz.func63,Tryz.ntmps63
 go_wp2
 go_loop [3,4] (fun n i=>∃(k:Nat),k<=s.size/\i=.int .i64 k/\n=.int .i64 (qJ7 (s.data.toList.take k))) (fun _ i=>s.size-(intOf i).toNat)
 case atStart=>exact⟨0,by omega,rfl,rfl⟩
 case round=>
  obtain⟨k,hk,rfl,rfl⟩:=hrel;by_cases hlt:k<s.size
  ·have hb:=Hd.o k hlt
   have hstep:=hZ (qIN s k hlt);have hle:qJ7 (s.data.toList.take k)<=1099511627777:=by unfold qJ7;omega
   generalize qJ7 (s.data.toList.take k)=n at *
   go_wp2
   go_round
   case rel=>
    refine⟨k+1,by omega,by go_num,?_⟩;rw[<-hstep.o];rw[qK8];exact congrArg (Value.int IntKind.i64) (by first|(split<;>omega)|omega)
   case measure=>simp[intOf];omega
  ·go_wp2
   go_ret;exact⟨qAJ (by rw[List.take_of_length_le (by simp;omega)]),rfl⟩
end Go.Proofs.YtpmnbcdjoomgcaaGreatDoor
