/- The reference's comparison of declarations: pairs. -/
import Derived.Test.YtpmnbcdjoomgcaaGreatDoorQPGApp
import Derived.Test.YtpmnbcdjoomgcaaGreatDoorQPQDcl
import Derived.Test.YtpmnbcdjoomgcaaGreatDoorQPQOpts
import Derived.Test.YtpmnbcdjoomgcaaGreatDoorQPPText
set_option linter.unusedVariables false
set_option linter.unusedSimpArgs false
set_option maxHeartbeats 4000000
set_option maxRecDepth 100000
namespace Go.Proofs.YtpmnbcdjoomgcaaGreatDoor
open Go.RowKit
theorem qJE:(Tryz.prog.info? 80).map (fun i=>(i.zero,i.size,i.bytes))=some (some (.agg #[.int .i64 0,.string ⟨#[]⟩,.int .i64 0,.int .i64 0]),4,40):=by kernel_rfl
def qGe(s:ByteArray)(ts:List Tok)(k:Nat):Prop:=
 lx s.size s.data.toList=match lx s.size (s.data.toList.drop k)with
  |.error x=> .error x
  |.ok us=> .ok (ts++us)
theorem qGe.start(s:ByteArray):qGe s [] (qC1 s false 0):=by
 unfold qGe;rw[qBz,qFs,List.drop_zero];cases lx s.size s.data.toList<;>rfl
theorem qGe.step{s:ByteArray}{ts:List Tok}{k:Nat}{t:Tok}(h:qGe s ts k)(hlt:k<s.size)(hsk:sk false (s.data.toList.drop k)=s.data.toList.drop k)
 (hnx:nx k (s.data.toList.drop k)=.ok t):qGe s (ts++[t]) (qC1 s false (qAb s k)):=by
 unfold qGe at h ⊢;rw[h,qKZ s k t hlt hsk hnx,qBz,qFs];cases lx s.size (s.data.toList.drop (qAb s k))with
 |error x=>rfl
 |ok us=>simp
theorem qGe.err{s:ByteArray}{ts:List Tok}{k:Nat}{er:Int}(h:qGe s ts k)(hlt:k<s.size)(hsk:sk false (s.data.toList.drop k)=s.data.toList.drop k)
 (hnx:nx k (s.data.toList.drop k)=.error er):lx s.size s.data.toList=.error (k,er):=by
 unfold qGe at h;rw[h,qG4 s k er hlt hsk hnx]
theorem qGe.ends{s:ByteArray}{ts:List Tok}{k:Nat}(h:qGe s ts k)(hk:s.size<=k):lx s.size s.data.toList=.ok ts:=by
 unfold qGe at h;rw[h,qCm s k hk]
 show Except.ok (ts++[])=_
 rw[List.append_nil]
theorem qB8(w:World)(o:Obj)(l:List Value)(t:TypeId):∀j u,l[j]? =some u->((w.alloc o).alloc (.cells l.toArray t)).cell? ((⟨w.heap.size+1,0,none⟩:Addr).add j)=some u:=by
 have:=qEG (w.alloc o) l t;rw[World.size_alloc]at this;exact this
theorem qHZ(s:ByteArray)(k:Nat)(hk:k<s.size)(h2:cl s[k]=2)(hgt:k<qAb s k)(hle:qAb s k<=s.size)(hs:s.size<=4611686018427387904)(w:World):
 Calls Tryz.prog 63 #[.string (s.extract k (qAb s k))] w fun e w'=>e=.returned (.int .i64 (min (qDe s k (qAb s k)) 1099511627777:Nat))/\w=w':=by
 have he:s.extract k (qAb s k)=⟨((s.data.toList.drop k).take (qAb s k-k)).toArray⟩:=by
  have:qAb s k=k+(qAb s k-k):=by omega
  conv=>lhs;rw[this,qBe]
 have hsz:(s.extract k (qAb s k)).size=qAb s k-k:=by rw[ByteArray.size_extract];omega
 have hl:s.data.toList.length=s.size:=by simp
 have hv:=qHU (s.extract k (qAb s k)) w (by omega) (by
  intro j hj;have hj':k+j<s.size:=by omega
  have hb:(s.extract k (qAb s k))[j]=s[k+j]:=by simp[ByteArray.getElem_extract]
  rw[hb];exact qJ8 s k (k+j) hk h2 (by omega) (by rw[<-qCI s k hk h2];omega) hj')
 refine hv.mono ?_;rintro e w' ⟨rfl,rfl⟩;refine⟨qAJ ?_,rfl⟩;rw[he];rfl
theorem qFO(s:ByteArray)(w:World)(hs:8192<s.size)(hs':s.size<=4611686018427387904):
 Calls Tryz.prog 36 #[.string s] w (qDR 80 s w):=by
 go_enter Tryz.func36,Tryz.ntmps36
 go_wp2
 go_ret3
 exact⟨Below.refl _ _,.inr ⟨0,4,by unfold lxs;rw[if_pos hs],rfl,.inr rfl⟩⟩
theorem qFf{s:ByteArray}{w wr w1:World}{k:Nat}{ts:List Tok}{v v':Value}{kind n:Int}{A B:Obj}
 (hk:k<s.size)(hts:ts.length<=k)(hgt:k<qAb s k)(hle:qAb s k<=s.size)(hsk:sk false (s.data.toList.drop k)=s.data.toList.drop k)(hR:qGe s ts k)
 (hnx:nx k (s.data.toList.drop k)=.ok ⟨kind,(s.data.toList.drop k).take (qAb s k-k),n,k⟩)
 (hB:Below w.heap.size w wr)(hv:wr.ownsRow w.heap.size 80 4 v ts.length (qBm ts))
 (hown:w1.ownsRow w.heap.size 80 4 v' (ts.length+1) (qBm ts++[.int .i64 kind,.string (s.extract k (qAb s k)),.int .i64 n,.int .i64 k]))
 (hg:((wr.alloc A).alloc B).grownBy w1 v.ownBlock):
 (∃(k':Nat) (ts':List Tok),k'<=s.size/\ts'.length<=k'/\Value.int IntKind.i64 ↑(qC1 s false (qAb s k))=.int .i64 k'/\Hid (sk false (s.data.toList.drop k')=s.data.toList.drop k')/\Hid (qGe s ts' k')/\
  Hid (w1.ownsRow w.heap.size 80 4 v' ts'.length (qBm ts'))/\Hid (Below w.heap.size w w1)):=by
 have hge:=qDF s (qAb s k) hle;refine⟨qC1 s false (qAb s k),ts++[⟨kind,(s.data.toList.drop k).take (qAb s k-k),n,k⟩],qFb _ _ _,by simp;omega,rfl,by rw[qBz,qDE];rfl,hR.step hk hsk hnx,?_,?_⟩
 ·have he:s.extract k (qAb s k)=⟨((s.data.toList.drop k).take (qAb s k-k)).toArray⟩:=by
   have:qAb s k=k+(qAb s k-k):=by omega
   conv=>lhs;rw[this,qBe]
  rw[he]at hown;rw[qD0,List.length_append];exact hown
 ·have hw:=hB.size
  exact((hB.alloc hw A).alloc (by simp;omega) B).grown hg (by simp;omega) (fun r e=>(hv.lt r e).1)
theorem qFe(s:ByteArray)(w:World)(hs:s.size<=8192):
 Calls Tryz.prog 36 #[.string s] w (qDR 80 s w):=by
 have Hlx:Hid (lxs s=lx s.size s.data.toList):=hZ (by unfold lxs;rw[if_neg (by omega)]);obtain⟨i0,hi,hz0,hz1,hz2⟩:=info_parts qJE;have Hi:=hZ hi;have Hz0:=hZ hz0;have Hz1:=hZ hz1;have Hz2:=hZ hz2;clear hi hz0 hz1 hz2
 go_enter Tryz.func36,Tryz.ntmps36
 go_wp2_with (go_at_call 60;refine(qB5 s 0 _ (by omega) (by omega)).mono ?_;rintro e w' ⟨rfl,rfl⟩)
 go_loopw [5,6] (fun v i wr=>∃(k:Nat) (ts:List Tok),k<=s.size/\ts.length<=k/\i=.int .i64 k/\Hid (sk false (s.data.toList.drop k)=s.data.toList.drop k)/\Hid (qGe s ts k)/\Hid (wr.ownsRow w.heap.size 80 4 v ts.length (qBm ts))/\Hid (Below w.heap.size w wr)) (fun _ i _=>s.size-(intOf i).toNat)
 case atStart=>exact⟨qC1 s false 0,[],qFb _ _ _,by simp,rfl,hZ (by rw[qBz,qDE]),hZ (qGe.start s),hZ (World.ownsRow_nil _ _ _ _),hZ (Below.refl _ _)⟩
 case round=>
  obtain⟨k,ts,hk,hts,rfl,hsk,hR,hown,hB⟩:=hrel;have hwr:w.heap.size<=wr.heap.size:=hB.o.size;by_cases hlt:k<s.size
  ·by_cases hend:qAb s k=k
   ·have He:=hZ hend
    have hnx:=hZ (qFq s k hlt hend);clear hend
    go_wp2_with (go_at_call 61;refine(qCO s k _ (by omega) hlt).mono ?_;rw[He.o];rintro e w' ⟨rfl,rfl⟩)
    go_ret3
    exact⟨hB.o,.inr ⟨k,2,by rw[Hlx.o];exact hR.o.err hlt hsk.o hnx.o,rfl,.inl rfl⟩⟩
   ·have hge:k<=qAb s k:=by unfold qAb;omega
    have hgt:k<qAb s k:=by omega
    clear hge;have hle:qAb s k<=s.size:=by
     have:=qKh (s.data.toList.drop k);have hl:s.data.toList.length=s.size:=by simp
     rw[List.length_drop]at this;unfold qAb;omega
    have hnend:((qAb s k:Int)==(k:Int))=false:=by rw[beq_eq_false_iff_ne];omega
    clear hend;by_cases h1:cl s[k]=1
    ·have q1:(cl s[k]==1)=true:=by rw[beq_iff_eq];exact h1
     have q2:(cl s[k]==2)=false:=by rw[beq_eq_false_iff_ne];omega
     have hnx0:=hZ (qE0 s k hlt h1);clear h1;by_cases hbig:16<qAb s k-k
     ·have hnx:Hid (nx k (s.data.toList.drop k)=.error 4):=hZ (by rw[hnx0.o,if_pos hbig])
      go_wp2_with (first|(at_builtin;(refine wpList_append_own _ rfl _ _ 73 rfl w.heap.size 80 i0 (.agg #[.int .i64 0,.string ⟨#[]⟩,.int .i64 0,.int .i64 0]) 4 40 Tryz.underlying73 Hi.o Hz0.o Hz1.o Hz2.o rfl (by decide) _ _ _ rfl ((hown.o.alloc _).alloc _) ⟨wr.heap.size+1,0,none⟩ 1 1 [.int .i64 0,.string (s.extract k (qAb s k)),.int .i64 0,.int .i64 k] rfl rfl (qB8 _ _ [.int .i64 0,.string (s.extract k (qAb s k)),.int .i64 0,.int .i64 k] _) (by simp[Value.oneCell']) (by unfold maxLen;omega) (by omega) (by simp;omega) ?_);intro v' w1 hown' hgrow _;have Hown':=hZ hown';have Hgrow:=hZ hgrow;clear hown' hgrow)|(go_at_call 61;refine(qCO s k _ (by omega) hlt).mono ?_;rintro e w' ⟨rfl,rfl⟩)|(go_at_call 62;refine(qAG _ _).mono ?_;rintro e w' ⟨rfl,rfl⟩)|(go_at_call 60;refine(qB5 s (qAb s k) _ (by omega) hle).mono ?_;rintro e w' ⟨rfl,rfl⟩))
      go_ret3
      exact⟨hB.o.alloc hwr _,.inr ⟨k,4,by rw[Hlx.o];exact hR.o.err hlt hsk.o hnx.o,rfl,.inr rfl⟩⟩
     ·have hnx:Hid (nx k (s.data.toList.drop k)=.ok ⟨0,(s.data.toList.drop k).take (qAb s k-k),0,k⟩):=hZ (by rw[hnx0.o,if_neg hbig])
      go_wp2_with (first|(at_builtin;(refine wpList_append_own _ rfl _ _ 73 rfl w.heap.size 80 i0 (.agg #[.int .i64 0,.string ⟨#[]⟩,.int .i64 0,.int .i64 0]) 4 40 Tryz.underlying73 Hi.o Hz0.o Hz1.o Hz2.o rfl (by decide) _ _ _ rfl ((hown.o.alloc _).alloc _) ⟨wr.heap.size+1,0,none⟩ 1 1 [.int .i64 0,.string (s.extract k (qAb s k)),.int .i64 0,.int .i64 k] rfl rfl (qB8 _ _ [.int .i64 0,.string (s.extract k (qAb s k)),.int .i64 0,.int .i64 k] _) (by simp[Value.oneCell']) (by unfold maxLen;omega) (by omega) (by simp;omega) ?_);intro v' w1 hown' hgrow _;have Hown':=hZ hown';have Hgrow:=hZ hgrow;clear hown' hgrow)|(go_at_call 61;refine(qCO s k _ (by omega) hlt).mono ?_;rintro e w' ⟨rfl,rfl⟩)|(go_at_call 62;refine(qAG _ _).mono ?_;rintro e w' ⟨rfl,rfl⟩)|(go_at_call 60;refine(qB5 s (qAb s k) _ (by omega) hle).mono ?_;rintro e w' ⟨rfl,rfl⟩))
      go_roundw
      case rel=>exact qFf hlt hts hgt hle hsk.o hR.o hnx.o hB.o hown.o Hown'.o Hgrow.o
      case measure=>
       have:=qDF s (qAb s k) hle;simp[intOf];omega
    ·by_cases h2:cl s[k]=2
     ·have q1:(cl s[k]==1)=false:=by rw[beq_eq_false_iff_ne];exact h1
      have q2:(cl s[k]==2)=true:=by rw[beq_iff_eq];exact h2
      have hnx0:=hZ (qEq s k hlt h2);have hdv:Hid (∀w,Calls Tryz.prog 63 #[.string (s.extract k (qAb s k))] w fun e w'=>e=.returned (.int .i64 (min (qDe s k (qAb s k)) 1099511627777:Nat))/\w=w'):=hZ (qHZ s k hlt h2 hgt hle (by omega));clear h1 h2;by_cases hbig:1099511627776<qDe s k (qAb s k)
      ·have hnx:Hid (nx k (s.data.toList.drop k)=.error 4):=hZ (by rw[hnx0.o,if_pos hbig])
       have hmin:Hid (min (qDe s k (qAb s k)) 1099511627777=1099511627777):=hZ (by omega)
       go_wp2_with (first|(at_builtin;(refine wpList_append_own _ rfl _ _ 73 rfl w.heap.size 80 i0 (.agg #[.int .i64 0,.string ⟨#[]⟩,.int .i64 0,.int .i64 0]) 4 40 Tryz.underlying73 Hi.o Hz0.o Hz1.o Hz2.o rfl (by decide) _ _ _ rfl ((hown.o.alloc _).alloc _) ⟨wr.heap.size+1,0,none⟩ 1 1 [.int .i64 1,.string (s.extract k (qAb s k)),.int .i64 0,.int .i64 k] rfl rfl (qB8 _ _ [.int .i64 1,.string (s.extract k (qAb s k)),.int .i64 0,.int .i64 k] _) (by simp[Value.oneCell']) (by unfold maxLen;omega) (by omega) (by simp;omega) ?_);intro v' w1 hown' hgrow _;have Hown':=hZ hown';have Hgrow:=hZ hgrow;clear hown' hgrow)|(go_at_call 61;refine(qCO s k _ (by omega) hlt).mono ?_;rintro e w' ⟨rfl,rfl⟩)|(go_at_call 62;refine(qAG _ _).mono ?_;rintro e w' ⟨rfl,rfl⟩)|(go_at_call 63;refine(hdv.o _).mono ?_;rw[hmin.o];rintro e w' ⟨rfl,rfl⟩)|(go_at_call 60;refine(qB5 s (qAb s k) _ (by omega) hle).mono ?_;rintro e w' ⟨rfl,rfl⟩))
       go_ret3
       exact⟨hB.o.alloc hwr _,.inr ⟨k,4,by rw[Hlx.o];exact hR.o.err hlt hsk.o hnx.o,rfl,.inr rfl⟩⟩
      ·have hnx:Hid (nx k (s.data.toList.drop k)=.ok ⟨1,(s.data.toList.drop k).take (qAb s k-k),qDe s k (qAb s k),k⟩):=hZ (by rw[hnx0.o,if_neg hbig])
       have hmin:Hid (min (qDe s k (qAb s k)) 1099511627777=qDe s k (qAb s k)):=hZ (by omega)
       go_wp2_with (first|(at_builtin;(refine wpList_append_own _ rfl _ _ 73 rfl w.heap.size 80 i0 (.agg #[.int .i64 0,.string ⟨#[]⟩,.int .i64 0,.int .i64 0]) 4 40 Tryz.underlying73 Hi.o Hz0.o Hz1.o Hz2.o rfl (by decide) _ _ _ rfl ((hown.o.alloc _).alloc _) ⟨wr.heap.size+1,0,none⟩ 1 1 [.int .i64 1,.string (s.extract k (qAb s k)),.int .i64 (qDe s k (qAb s k):Nat),.int .i64 k] rfl rfl (qB8 _ _ [.int .i64 1,.string (s.extract k (qAb s k)),.int .i64 (qDe s k (qAb s k):Nat),.int .i64 k] _) (by simp[Value.oneCell']) (by unfold maxLen;omega) (by omega) (by simp;omega) ?_);intro v' w1 hown' hgrow _;have Hown':=hZ hown';have Hgrow:=hZ hgrow;clear hown' hgrow)|(go_at_call 61;refine(qCO s k _ (by omega) hlt).mono ?_;rintro e w' ⟨rfl,rfl⟩)|(go_at_call 62;refine(qAG _ _).mono ?_;rintro e w' ⟨rfl,rfl⟩)|(go_at_call 63;refine(hdv.o _).mono ?_;rw[hmin.o];rintro e w' ⟨rfl,rfl⟩)|(go_at_call 60;refine(qB5 s (qAb s k) _ (by omega) hle).mono ?_;rintro e w' ⟨rfl,rfl⟩))
       go_roundw
       case rel=>exact qFf hlt hts hgt hle hsk.o hR.o hnx.o hB.o hown.o Hown'.o Hgrow.o
       case measure=>
        have:=qDF s (qAb s k) hle;simp[intOf];omega
     ·have q1:(cl s[k]==1)=false:=by rw[beq_eq_false_iff_ne];exact h1
      have q2:(cl s[k]==2)=false:=by rw[beq_eq_false_iff_ne];exact h2
      have hnx:Hid (nx k (s.data.toList.drop k)=.ok ⟨2,(s.data.toList.drop k).take (qAb s k-k),0,k⟩):=hZ (by
       have h0:tl (s.data.toList.drop k)≠0:=by rw[qEd];omega
       rw[<-qEd];rw[qAF s k hlt]at h0 ⊢;unfold nx;simp only[];rw[if_neg h0,if_neg h1,if_neg h2])
      clear h1 h2
      go_wp2_with (first|(at_builtin;(refine wpList_append_own _ rfl _ _ 73 rfl w.heap.size 80 i0 (.agg #[.int .i64 0,.string ⟨#[]⟩,.int .i64 0,.int .i64 0]) 4 40 Tryz.underlying73 Hi.o Hz0.o Hz1.o Hz2.o rfl (by decide) _ _ _ rfl ((hown.o.alloc _).alloc _) ⟨wr.heap.size+1,0,none⟩ 1 1 [.int .i64 2,.string (s.extract k (qAb s k)),.int .i64 0,.int .i64 k] rfl rfl (qB8 _ _ [.int .i64 2,.string (s.extract k (qAb s k)),.int .i64 0,.int .i64 k] _) (by simp[Value.oneCell']) (by unfold maxLen;omega) (by omega) (by simp;omega) ?_);intro v' w1 hown' hgrow _;have Hown':=hZ hown';have Hgrow:=hZ hgrow;clear hown' hgrow)|(go_at_call 61;refine(qCO s k _ (by omega) hlt).mono ?_;rintro e w' ⟨rfl,rfl⟩)|(go_at_call 62;refine(qAG _ _).mono ?_;rintro e w' ⟨rfl,rfl⟩)|(go_at_call 60;refine(qB5 s (qAb s k) _ (by omega) hle).mono ?_;rintro e w' ⟨rfl,rfl⟩))
      go_roundw
      case rel=>exact qFf hlt hts hgt hle hsk.o hR.o hnx.o hB.o hown.o Hown'.o Hgrow.o
      case measure=>
       have:=qDF s (qAb s k) hle;simp[intOf];omega
  ·go_wp2
   go_ret3
   exact⟨hB.o,.inl ⟨ts,_,by rw[Hlx.o];exact hR.o.ends (by omega),by omega,rfl,hown.o⟩⟩
theorem qGk(s:ByteArray)(w:World)(hs':s.size<=4611686018427387904):
 Calls Tryz.prog 36 #[.string s] w (qDR 80 s w):=by
 by_cases h:8192<s.size
 ·exact qFO s w h hs'
 ·exact qFe s w (by omega)
theorem qK3:∀s∈askW,s.head?.map cl=some 1:=by decide +kernel
theorem qK4:∀s∈qLc,s.head?.map cl=some 4:=by decide +kernel
theorem qLo{a:Nat}{l:Bs}{t:Tok}(h:nx a l=.ok t):WfT t:=by
 have key:∃c r,t.text=c::r/\t.kind=(if cl c=1 then 0 else if cl c=2 then 1 else 2):=by
  have h2:=qGt h;cases l with
  |nil=>simp[nx]at h
  |cons c r=>
   obtain⟨h3,h4,-⟩:=h2;obtain⟨m,hm⟩:∃m,tl (c::r)=m+1:=⟨tl (c::r)-1,by omega⟩;refine⟨c,r.take m,by rw[h4,hm];rfl,?_⟩;unfold nx at h;simp only[]at h;rw[if_neg (by omega)]at h;by_cases h1:cl c=1
   ·rw[if_pos h1]at h ⊢
    split at h
    ·cases h
    ·cases h;rfl
   ·rw[if_neg h1]at h ⊢
    by_cases h2:cl c=2
    ·rw[if_pos h2]at h ⊢
     split at h
     ·cases h
     ·cases h;rfl
    ·rw[if_neg h2]at h ⊢
     cases h;rfl
 obtain⟨c,r,h1,h2⟩:=key;refine⟨fun s hs he=> ?_,fun s hs he=> ?_⟩
 ·have:s.head?.map cl=some 1:=qK3 s hs
  rw[<-he,h1]at this;have h3:cl c=1:=by simpa using this
  rw[h2,if_pos h3]
 ·have:s.head?.map cl=some 4:=qK4 s hs
  rw[<-he,h1]at this;have h3:cl c=4:=by simpa using this
  rw[h2,if_neg (by omega),if_neg (by omega)]
theorem qKY(N:Nat):∀(n:Nat) (l:Bs) (ts:List Tok),l.length<=n->lx N l=.ok ts->WfL ts
 |n,l,ts,hn,h=>by
  rw[qGw]at h;cases hs:sk false l with
  |nil=>rw[hs]at h;cases h;intro t ht;cases ht
  |cons c r=>
   rw[hs]at h;simp only[]at h;cases hx:nx (N-(c::r).length) (c::r)with
   |error e=>rw[hx]at h;cases h
   |ok t=>
    rw[hx]at h;simp only[]at h;have h0:=(qGt hx).1;have hle:(c::r).length<=l.length:=by rw[<-hs];exact qES _ _
    have hd:((c::r).drop (tl (c::r))).length<l.length:=by
     rw[List.length_drop];have:0<(c::r).length:=by simp
     omega
    cases hy:lx N ((c::r).drop (tl (c::r)))with
    |error e=>rw[hy]at h;cases h
    |ok us=>
     rw[hy]at h;cases h
     match n,hn with
     |0,hn=>omega
     |m+1,hn=>
      have:=qKY N m _ us (by omega) hy;intro u hu;rcases List.mem_cons.1 hu with rfl|hu
      ·exact qLo hx
      ·exact this u hu
abbrev DRef:=qHO 96 31
abbrev DsRef:=qDC 96 31 35
def qHM(s:ByteArray)(w:World)(e:Ending)(w':World):Prop:=
 Below w.heap.size w w'/\((∃ds v,qAE s.data.toList=.ok ds/\ds.length<=s.size+1/\e=.returned (.tuple #[v,.int .i64 0,.int .i64 0])/\DsRef w' v ds)\/
  (∃k er,qAE s.data.toList=.error (k,er)/\e=.returned (.tuple #[.slice none 0 0,.int .i64 (k:Nat),.int .i64 er])/\(er=2\/er=4)))
def qHR(w:World)(css:List (List Value))(l:List Dc):Prop:=css.length=l.length/\∀j (h:j<l.length) (h':j<css.length),DRef w css[j] l[j]
theorem qHR.nil(w:World):qHR w [] []:=⟨rfl,fun j h=>by simp at h⟩
theorem qHR.kp{X:List TypeId}{w w':World}{css:List (List Value)}{l:List Dc}(h:qHR w css l)(hk:KpX X w w')(h1:96∉X)(h2:31∉X)(h3:98∉X):qHR w' css l:=⟨h.1,fun j a b=>(h.2 j a b).kp hk h1 h2 h3⟩
theorem qHR.snoc{w:World}{css:List (List Value)}{l:List Dc}{cs:List Value}{d:Dc}(h:qHR w css l)(hd:DRef w cs d):qHR w (css++[cs]) (l++[d]):=by
 refine⟨by simp[h.1],fun j h1 h2=> ?_⟩;by_cases hj:j<l.length
 ·rw[List.getElem_append_left hj,List.getElem_append_left (by rw[h.1];exact hj)]
  exact h.2 j hj (by rw[h.1];exact hj)
 ·have h3:j=l.length:=by simp at h1;omega
  subst h3;have h4:=h.1;rw[List.getElem_append_right (Nat.le_refl _),List.getElem_append_right (by omega)];simpa using hd
theorem qHR.ds{w:World}{base:Nat}{v:Value}{css:List (List Value)}{l:List Dc}(h:qHR w css l)(ho:w.ownsRow base 35 17 v l.length css.flatten):DsRef w v l:=by
 refine TSl.of_own (css:=css) (base:=base) (n:=l.length) ho rfl (fun cs hc=> ?_) h.1 (fun j a b=>h.2 j a b);obtain⟨j,hj,rfl⟩:=List.mem_iff_getElem.1 hc;obtain⟨y,hy,-⟩:=h.2 j (by rw[<-h.1];exact hj) hj;rw[hy];rfl
theorem qGD:qD4 Tryz.prog 28 35 17 208:=qD4.mk (z:=.agg #[.int .i64 0,.string ⟨#[]⟩,.int .i64 0,.bool false,.bool false,.bool false,.int .i64 0,.int .i64 0,.int .i64 0,.int .i64 0,.int .i64 0,.int .i64 0,.slice none 0 0,.slice none 0 0,.slice none 0 0,.slice none 0 0,.slice none 0 0]) Tryz.underlying28 (by kernel_rfl) rfl (by decide)
theorem qJM{w:World}{d:Dc}{y:Ls}(h:LRef w d y):∀u∈dcC d y,u.oneCell'=true:=by
 obtain⟨_,_,e1, -,-⟩:=TSl.form h.t;obtain⟨_,_,e2, -,-⟩:=TSl.form h.g;obtain⟨_,_,e3, -,-⟩:=TSl.form h.b;obtain⟨_,_,e4, -,-⟩:=TSl.form h.r;obtain⟨_,_,e5, -,-⟩:=TSl.form h.x;simp[dcC,e1,e2,e3,e4,e5,Value.oneCell']
theorem qFR{b:Nat}{s:ByteArray}{T z:List Tok}{bad:Bool}{w1:World}(hw:WfL T)(h:QS w1 b s T z bad):∀w',Below w1.heap.size w1 w'->
 Calls Tryz.prog 37 #[.pointer (some ⟨b,0,none⟩)] w' (qJU b s T qA6 bad z w1 DV):=by
 intro w' hB;refine(qIb b s T z bad w' hw (h.below hB)).mono ?_;rintro e w3 ⟨u,z',bad',h2,h3,h4⟩;exact⟨u,z',bad',h2,h3,h4.1,(qAf.of_below hB).trans h4.2⟩
theorem qD8:∀(cs pre suf:List Value),suf.length=cs.length->List.foldl (fun(c:Array Value) x=>c.setIfInBounds x.snd x.fst) (pre++suf).toArray (cs.zipIdx pre.length)=(pre++cs).toArray
 |[],pre,suf,h=>by
  have:suf=[]:=List.eq_nil_of_length_eq_zero h;subst this;rfl
 |c::cs,pre,suf,h=>by
  cases suf with
  |nil=>simp at h
  |cons x suf=>
   have h1:(pre++x::suf).toArray.setIfInBounds pre.length c=((pre++[c])++suf).toArray:=by simp[List.set_append]
   have:=qD8 cs (pre++[c]) suf (by simpa using h);rw[List.length_append]at this;rw[List.zipIdx_cons,List.foldl_cons,h1];simpa using this
def PL(ts:List Tok)(ds:List Dc)(z:List Tok)(bd:Bool):Prop:=
 if bd then qEZ (ts.length+1) ts=.error z else ∃f,z.length<=f/\qEZ (ts.length+1) ts=qHQ ds (qEZ (f+1) z)
theorem PL.next{ts z z2:List Tok}{ds:List Dc}{u:Option Dc}{d:Dc}{bd:Bool}(h:PL ts ds z false)(hz:z≠[])(hq:QR qA6 false z u bd z2)(hu:∀x,u=some x->d=x):PL ts (ds++[d]) z2 bd/\(bd=false->z2.length<z.length):=by
 obtain⟨f,hf,he⟩:=h;cases z with
 |nil=>exact absurd rfl hz
 |cons t r=>
  rw[qIh]at he;unfold QR at hq;simp only[Bool.false_eq_true,if_false]at hq;cases hp:qA6 (t::r)with
  |error x=>
   rw[hp]at hq he;obtain⟨rfl,rfl,rfl⟩:=hq;exact⟨he,nofun⟩
  |ok a=>
   rw[hp]at hq he;obtain⟨rfl,rfl,rfl⟩:=hq;have hl:=qFY hp;simp at hf hl;obtain⟨f',rfl⟩:∃f',f=f'+1:=⟨f-1,by omega⟩;refine⟨⟨f',by omega,?_⟩,fun _=>by simp;omega⟩;rw[he,hu _ rfl];exact qGT _ _ _
theorem PL.ok{ts:List Tok}{ds:List Dc}(N:Nat)(h:PL ts ds [] false):qC6 N ts=.ok ds:=by
 obtain⟨f, -,he⟩:=h;unfold qC6;rw[he];simp[qEZ,qHQ]
theorem PL.err{ts z:List Tok}{ds:List Dc}(N:Nat)(h:PL ts ds z true):qC6 N ts=.error (qKo N z,2):=by
 have he:qEZ (ts.length+1) ts=.error z:=h;unfold qC6;rw[he]
theorem qEU(s:ByteArray)(w:World)(hs:s.size<=100000):
 Calls Tryz.prog 14 #[.string s] w (qHM s w):=by
 have HC:=hZ (qGk s w (by omega));have hN:s.data.toList.length=s.size:=by simp
 go_enter Tryz.func14,Tryz.ntmps14
 go_wp2_with fail
 refine HC.o.mono ?_;rintro e w1 ⟨hB1,⟨ts,v,hx,hlen,rfl,hown⟩|⟨k,er,hx,rfl,her⟩⟩;rotate_left
 ·have HT:Hid (qAE s.data.toList=.error (k,er)):=hZ (by
   unfold qAE;unfold lxs at hx;rw[hN,hx])
  have HB:=hZ hB1;have HR:Hid (er=2\/er=4):=hZ her;have hne:¬er=0:=by omega
  clear hx hB1 her HC
  go_wp2_with fail
  refine bodyPost_ret (v:=.tuple #[.slice none 0 0,.int .i64 (k:Nat),.int .i64 er]) (by simp[results,Tryz.results14,go_sem]) rfl ?_;exact⟨HB.o,.inr ⟨k,er,HT.o,rfl,HR.o⟩⟩
 have HT:Hid (qAE s.data.toList=qC6 s.size ts):=hZ (by
  unfold qAE;unfold lxs at hx;rw[hN,hx])
 have hwf:WfL ts:=by
  unfold lxs at hx
  split at hx
  ·cases hx
  ·exact qKY _ _ _ _ (Nat.le_refl _) hx
 have HW:=hZ hwf;have htk:=qDB.of_own hown;obtain⟨a,cap,rfl,hc1,hc2⟩:=TSl.form htk;obtain⟨b,hbe⟩:=eX w1.heap.size;obtain⟨w2,hw2⟩:=eX (w1.alloc (.cells #[.string s,.slice a ts.length cap,.int .i64 0,.bool false] 78));have hb2:QB w2 b s (.slice a ts.length cap) 0 false:=by rw[<-hw2,<-hbe];exact heap_alloc_new w1 _
 have hB2:Below w1.heap.size w1 w2:=by rw[<-hw2];exact qAa _ _
 have HQ2:Hid (QS w2 b s ts ts false):=hZ ⟨_,0,hb2,htk.below hB2,by omega,rfl,by omega⟩;have hz2:w2.heap.size=b+1:=by rw[<-hw2];simp[hbe]
 have hwb:w.heap.size<=b:=by rw[<-hbe];exact hB1.size
 have HB2:=hZ (hB1.trans (hB2.mono hB1.size));have HL:Hid (ts.length<=s.size):=hZ hlen;clear hx hwf htk hb2 hB2 hown hB1 hlen HC hc1 hc2
 go_wp2_with fail
 clear hw2 hbe
 go_loopw [9] (fun v wr=>∃(ds:List Dc) (css:List (List Value)) (z:List Tok) (bd:Bool),Hid (PL ts ds z bd)/\Hid (ds.length+(if bd then 0 else z.length+1)<=ts.length+1)/\Hid (QS wr b s ts z bd)/\Hid (wr.ownsRow (b+1) 35 17 v ds.length css.flatten)/\Hid (qHR wr css ds)/\Hid (Below w.heap.size w wr)/\Hid (b+1<=wr.heap.size)) (fun _ wr=>qM2 wr b (.bool true))
 case atStart=>exact⟨[],[],ts,false,hZ ⟨ts.length,Nat.le_refl _,(qGS _).symm⟩,hZ (by simp),HQ2,hZ (World.ownsRow_nil _ _ _ _),hZ (qHR.nil _),HB2,hZ (by omega)⟩
 case round=>
  clear HQ2 HB2 hz2;obtain⟨ds,css,z,bd,HP,HD,HQ,HO,HV,HB,HZ⟩:=hrel;obtain⟨v0,i,a0,cap0,hb0,ht0,rfl,hi0,hz0,hT0⟩:=HQ.o.at_;have c1:wr.cell? ⟨b,1,none⟩=some (.slice a0 ts.length cap0):=hb0.cell 1;have c2:wr.cell? ⟨b,2,none⟩=some (.int .i64 i):=hb0.cell 2;have c3:wr.cell? ⟨b,3,none⟩=some (.bool bd):=hb0.cell 3;by_cases hbd:bd=true
  ·subst hbd
   have HE:=hZ (HT.o.trans (HP.o.err s.size));by_cases hlt:i<ts.length
   ·have hp:qKo s.size z=ts[i].at_:=by rw[hz0,List.drop_eq_getElem_cons hlt];rfl
    obtain⟨g,off,cp,hv,k1,k2,hg, -, -, -,t3⟩:=ht0.nth i hlt;injection hv with hv _ hv2;subst hv hv2;rw[hp]at HE;have hn0:(0:Int)<=(i:Int):=by omega
    have hn1:(i:Int)<(ts.length:Int):=by omega
    obtain⟨ta,hta⟩:=eX (ts[i].at_);rw[hta]at HE t3;clear hb0 ht0 hz0 hp hta hT0 hi0 HQ HP HO HV HD HL HT HW
    go_wp2_with fail
    go_region
    go_wp2_with fail
    go_region
    go_wp2_with fail
    go_region
    go_wp2_with fail
    refine bodyPost_ret (v:=.tuple #[.slice none 0 0,.int .i64 (ta:Nat),.int .i64 2]) (by simp[results,Tryz.results14,go_sem]) rfl ?_;refine⟨?_,.inr ⟨ta,2,HE.o,rfl,.inl rfl⟩⟩
    repeat (refine below_drewN ?_ _)
    exact HB.o
   ·have hp:qKo s.size z=s.size:=by rw[hz0,List.drop_of_length_le (by omega)];rfl
    rw[hp]at HE;have hn1:¬(i:Int)<(ts.length:Int):=by omega
    clear hb0 ht0 hz0 hp hT0 hi0 HQ HP HO HV HD HL HT HW
    go_wp2_with fail
    go_region
    go_wp2_with fail
    go_region
    go_wp2_with fail
    refine bodyPost_ret (v:=.tuple #[.slice none 0 0,.int .i64 (s.size:Nat),.int .i64 2]) (by simp[results,Tryz.results14,go_sem]) rfl ?_;refine⟨?_,.inr ⟨s.size,2,HE.o,rfl,.inl rfl⟩⟩
    repeat (refine below_drewN ?_ _)
    exact HB.o
  ·obtain rfl:bd=false:=by simpa using hbd
   clear hbd;by_cases hlt:i<ts.length
   ·have hzn:z≠[]:=by rw[hz0,List.drop_eq_getElem_cons hlt];exact List.cons_ne_nil _ _
    have HZN:=hZ hzn;have hn1:(i:Int)<(ts.length:Int):=by omega
    have HC:=hZ (qFR HW.o HQ.o);have hdl:ds.length<=100000:=by have:=HD.o;have:=HL.o;simp at *;omega
    clear hb0 ht0 hz0 hT0 hi0 hzn
    go_wp2_with fail
    go_region
    go_wp2_with fail
    clear c1 c2 c3 hn1 hlt;refine(HC.o _ (qAt _ _)).mono ?_;rintro e w5 ⟨u5,z5,b5,⟨d5,y5,rfl,hl5,hu5⟩,hq5,hr5⟩;have HT5:=hZ (HP.o.next HZN.o hq5 hu5);have HL5:=hZ hl5;have HQ5:=hZ hr5.1;have HX5:=hZ (HQ.o.kpx hr5.2);have HV5:=hZ (HV.o.kp HX5.o (by decide) (by decide) (by decide));have HO5:=hZ (hr5.2.own HO.o (fun k hk he=>by have:=(HO.o.lt k hk).1;omega));have HB5:=hZ (qAf.below hr5.2 HB.o HB.o.size (fun k hk=>by omega));have HZ5:=hZ (Nat.le_trans HZ.o hr5.2.size);have hon:=qJM hl5;have hsz:(dcC d5 y5).length=17:=rfl;have hfold:List.foldl (fun(cs:Array Value) x=>cs.setIfInBounds x.snd x.fst) #[Value.int IntKind.i64 0,Value.string { data:=#[] },Value.int IntKind.i64 0,Value.bool false,Value.bool false,Value.bool false,Value.int IntKind.i64 0,Value.int IntKind.i64 0,Value.int IntKind.i64 0,Value.int IntKind.i64 0,Value.int IntKind.i64 0,Value.int IntKind.i64 0,Value.slice none 0 0,Value.slice none 0 0,Value.slice none 0 0,Value.slice none 0 0,Value.slice none 0 0] (dcC d5 y5).zipIdx=(dcC d5 y5).toArray:=qD8 (dcC d5 y5) [] [Value.int IntKind.i64 0,Value.string { data:=#[] },Value.int IntKind.i64 0,Value.bool false,Value.bool false,Value.bool false,Value.int IntKind.i64 0,Value.int IntKind.i64 0,Value.int IntKind.i64 0,Value.int IntKind.i64 0,Value.int IntKind.i64 0,Value.int IntKind.i64 0,Value.slice none 0 0,Value.slice none 0 0,Value.slice none 0 0,Value.slice none 0 0,Value.slice none 0 0] hsz.symm;obtain⟨cs,hcs⟩:=eX (dcC d5 y5);rw[hcs]at hon hsz hfold ⊢;have Hcs:=hZ hcs;clear hl5 hu5 hq5 hr5 HC HV HO HP hcs HX5
    go_wp2_with (at_builtin;refine qAB (W0:=w5) qGD rfl _ _ rfl cs 35 _ _ _ rfl rfl hsz hon HO5.o (Below.refl _ _) HZ5.o (by omega) (by omega) ?_)
    intro g6 cap6 w6 HO6 HB6 HW6 hcap6 hat6;have HX6:=hZ (KpX.own (X:=[35]) HO5.o HW6.o (by simp));have HQ6:=hZ (HQ5.o.kp HX6.o (by decide) (by decide));have HV6:=hZ ((HV5.o.snoc ⟨y5,Hcs.o.symm,HL5.o⟩).kp HX6.o (by decide) (by decide) (by decide));have HB7:=hZ (HB5.o.trans (HB6.o.mono (show w.heap.size<=b+1 by omega)));have HZ6:=hZ (Nat.le_trans HZ5.o HB6.o.size);clear HX6 HQ5 HV5 HO5 HB5 HB6 HW6 hat6 HZ5 hfold hon hsz;obtain⟨ds',hds⟩:∃l,l=ds++[d5]:=⟨_,rfl⟩;obtain⟨css',hcss⟩:∃l,l=css++[cs]:=⟨_,rfl⟩;have hal:ds.length+1=ds'.length:=by rw[hds];simp
    have hfl:css.flatten++cs=css'.flatten:=by rw[hcss];simp
    rw[<-hds,<-hcss]at HV6;rw[<-hds]at HT5;rw[hal,hfl]at HO6;rw[hal];have Hal:=hZ hal;clear hds hcss hal hfl hcap6 hdl
    go_wp2_with fail
    go_roundw
    case rel=>exact⟨ds',css',z5,b5,hZ HT5.o.1,hZ (by have h8:=HT5.o.2;have h7:=HD.o;have:=Hal.o;cases b5<;>simp at h7 h8 ⊢ <;>omega),HQ6,HO6,HV6,HB7,HZ6⟩
    case measure=>
     rw[HQ6.o.m2 true,HQ.o.m2 true];have h8:=HT5.o.2;cases b5<;>simp at h8 ⊢ <;>omega
   ·have hze:z=[]:=by rw[hz0,List.drop_of_length_le (by omega)]
    subst hze;have HE:=hZ (HT.o.trans (HP.o.ok s.size));have hn1:¬(i:Int)<(ts.length:Int):=by omega
    have HDs:=hZ (HV.o.ds HO.o);have HLn:Hid (ds.length<=s.size+1):=hZ (by have:=HD.o;have:=HL.o;simp at *;omega);clear hb0 ht0 hz0 hT0 hi0 HQ HP HO HV HD HL HT HW
    go_wp2_with fail
    go_region
    go_wp2_with fail
    refine bodyPost_ret (v:=.tuple #[u9,.int .i64 0,.int .i64 0]) (by simp[results,Tryz.results14,go_sem]) rfl ?_;refine⟨?_,.inl ⟨ds,_,HE.o,HLn.o,rfl,?_⟩⟩
    ·repeat (refine below_drewN ?_ _)
     exact HB.o
    ·exact HDs.o.kp (KpX.of_below (X:=[]) (qAt _ _)) (by simp) (by simp) (by simp) (by simp)
def smP(off:Bool)(a b:List Pr):Prop:=stL a=stL b/\(off=true->a=b)
theorem smP.len{off:Bool}{a b:List Pr}(h:smP off a b):b.length=a.length:=by simpa[stL]using (congrArg List.length h.1).symm
theorem smP.nth{off:Bool}{a b:List Pr}(h:smP off a b)(k:Nat)(h1:k<a.length)(h2:k<b.length):b[k].n=a[k].n/\b[k].name=a[k].name/\(off=true->b[k].at_=a[k].at_):=by
 have h3:(stL a)[k]? =(stL b)[k]? :=by rw[h.1]
 simp only[stL,List.getElem?_map,List.getElem?_eq_getElem h1,List.getElem?_eq_getElem h2,Option.map_some,Option.some.injEq,Pr.st,Pr.mk.injEq]at h3;exact⟨h3.1.symm,h3.2.1.symm,fun ho=>by have:=h.2 ho;subst this;rfl⟩
theorem qAA.nth{e:TypeId}{w:World}{v:Value}{l:List Pr}(h:qAA e w v l)(i:Nat)(hi:i<l.length):∃g off cap,v=.slice (some ⟨g,off,none⟩) l.length cap/\
 w.cell? ⟨g,off+i*3,none⟩=some (.int .i64 l[i].n)/\w.cell? ⟨g,off+i*3+1,none⟩=some (.string ⟨l[i].name.toArray⟩)/\w.cell? ⟨g,off+i*3+2,none⟩=some (.int .i64 l[i].at_):=by
 obtain⟨g,off,cap,es,hv,h1,h2,h3,rfl, -,hc⟩:=TSl.at_ h i hi;exact⟨g,off,cap,hv,hc 0 (by omega),hc 1 (by omega),hc 2 (by omega)⟩
theorem qBi(off:Bool)(va vb:Value)(a b:List Pr)(w:World)(ha:qAA 96 w va a)(hb:qAA 96 w vb b)(hl:a.length<=1000000)(hs:smP off a b):
 Calls Tryz.prog 70 #[va,vb,.bool off] w fun e w'=>e=.returned (.bool true)/\Below w.heap.size w w':=by
 obtain⟨aa,ca,rfl, -,-⟩:=TSl.form ha;obtain⟨ab,cb,rfl, -,-⟩:=TSl.form hb;have HA:=hZ ha;have HB:=hZ hb;have HS:=hZ hs;have hlen:=hs.len;obtain⟨n,hn⟩:=eX a.length;rw[hlen,hn];rw[hn]at hl;have Hn:=hZ hn;have Hnb:Hid (b.length=n):=hZ (by omega);clear ha hb hs hlen hn
 go_enter Tryz.func70,Tryz.ntmps70
 go_wp2_with fail
 go_loopw [7] (fun iv wr=>∃k:Nat,k<=n/\iv=.int .i64 k/\Hid (Below w.heap.size w wr)) (fun iv _=>n-(intOf iv).toNat)
 case atStart=>exact⟨0,by omega,rfl,hZ (Below.refl _ _)⟩
 case round=>
  obtain⟨k,hk,rfl,HW⟩:=hrel;by_cases hlt:k<n
  ·have h1:k<a.length:=by have:=Hn.o;omega
   have h2:k<b.length:=by have:=Hnb.o;omega
   obtain⟨e1,e2,e3⟩:=HS.o.nth k h1 h2;obtain⟨g,o1,cp,hv,a0,a1,a2⟩:=qAA.nth (HA.o.kp (KpX.of_below (X:=[]) HW.o) (by simp)) k h1;obtain⟨g',o2,cp',hv',b0,b1,b2⟩:=qAA.nth (HB.o.kp (KpX.of_below (X:=[]) HW.o) (by simp)) k h2;injection hv with hv _ hv2;injection hv' with hv' _ hv2';subst hv hv2 hv' hv2';rw[e1]at b0;rw[e2]at b1;have hn0:(0:Int)<=(k:Int):=by omega
   have hn1:(k:Int)<(n:Int):=by omega
   obtain⟨x,hx⟩:=eX (a[k].n);obtain⟨s,hsx⟩:=eX (a[k].name.toArray);obtain⟨y,hy⟩:=eX (a[k].at_);rw[hx]at a0 b0;rw[hsx]at a1 b1;rw[hy]at a2;cases off with
   |false=>
    obtain⟨z,hz⟩:=eX (b[k].at_);rw[hz]at b2;clear e1 e2 e3 hx hsx hy hz h1 h2
    go_wp2_with fail
    go_region
    go_wp2_with fail
    go_roundw
    case rel=>exact⟨k+1,by omega,by go_num,hZ (below_drewN HW.o _)⟩
    case measure=>simp[intOf];omega
   |true=>
    rw[e3 rfl,hy]at b2;clear e1 e2 e3 hx hsx hy h1 h2
    go_wp2_with fail
    go_region
    go_wp2_with fail
    go_roundw
    case rel=>exact⟨k+1,by omega,by go_num,hZ (below_drewN HW.o _)⟩
    case measure=>simp[intOf];omega
  ·have hn1:¬(k:Int)<(n:Int):=by omega
   go_wp2_with fail
   go_ret;exact⟨rfl,HW.o⟩
end Go.Proofs.YtpmnbcdjoomgcaaGreatDoor
