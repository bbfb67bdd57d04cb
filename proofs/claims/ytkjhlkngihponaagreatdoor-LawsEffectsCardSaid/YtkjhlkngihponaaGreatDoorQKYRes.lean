/- worldmintref10.Results. -/
import Derived.Test.YtkjhlkngihponaaGreatDoorQKGFits
import Derived.Test.YtkjhlkngihponaaGreatDoorQKLTimes
set_option linter.unusedVariables false
set_option linter.unusedSimpArgs false
set_option maxHeartbeats 4000000
set_option maxRecDepth 100000
namespace Go.Proofs.YtkjhlkngihponaaGreatDoor
open Go.RowKit
theorem qO1:(Tryz.prog.info? 213).map (fun i=>(i.zero,i.size,i.bytes))=some (some (.agg #[.int .i64 0,.string ⟨#[]⟩,.int .i64 0,.int .i64 0]),4,40):=by kernel_rfl
def qJl(s:ByteArray)(ts:List Tok)(k:Nat):Prop:=
 lx s.size s.data.toList=match lx s.size (s.data.toList.drop k)with
  |.error x=> .error x
  |.ok us=> .ok (ts++us)
theorem qJl.start(s:ByteArray):qJl s [] (qDH s false 0):=by
 unfold qJl;rw[qBR,qHF,List.drop_zero];cases lx s.size s.data.toList<;>rfl
theorem qJl.step{s:ByteArray}{ts:List Tok}{k:Nat}{t:Tok}(h:qJl s ts k)(hlt:k<s.size)(hsk:sk false (s.data.toList.drop k)=s.data.toList.drop k)
 (hnx:nx k (s.data.toList.drop k)=.ok t):qJl s (ts++[t]) (qDH s false (qAh s k)):=by
 unfold qJl at h ⊢;rw[h,qRw s k t hlt hsk hnx,qBR,qHF];cases lx s.size (s.data.toList.drop (qAh s k))with
 |error x=>rfl
 |ok us=>simp
theorem qJl.err{s:ByteArray}{ts:List Tok}{k:Nat}{er:Int}(h:qJl s ts k)(hlt:k<s.size)(hsk:sk false (s.data.toList.drop k)=s.data.toList.drop k)
 (hnx:nx k (s.data.toList.drop k)=.error er):lx s.size s.data.toList=.error (k,er):=by
 unfold qJl at h;rw[h,qKL s k er hlt hsk hnx]
theorem qJl.ends{s:ByteArray}{ts:List Tok}{k:Nat}(h:qJl s ts k)(hk:s.size<=k):lx s.size s.data.toList=.ok ts:=by
 unfold qJl at h;rw[h,qCS s k hk]
 show Except.ok (ts++[])=_
 rw[List.append_nil]
theorem qCC(w:World)(o:Obj)(l:List Value)(t:TypeId):∀j u,l[j]? =some u->((w.alloc o).alloc (.cells l.toArray t)).cell? ((⟨w.heap.size+1,0,none⟩:Addr).add j)=some u:=by
 have:=qJb (w.alloc o) l t;rw[World.size_alloc]at this;exact this
theorem qME(s:ByteArray)(k:Nat)(hk:k<s.size)(h2:cl s[k]=2)(hgt:k<qAh s k)(hle:qAh s k<=s.size)(hs:s.size<=4611686018427387904)(w:World):
 Calls Tryz.prog 194 #[.string (s.extract k (qAh s k))] w fun e w'=>e=.returned (.int .i64 (min (qDZ s k (qAh s k)) 1099511627777:Nat))/\w=w':=by
 have he:s.extract k (qAh s k)=⟨((s.data.toList.drop k).take (qAh s k-k)).toArray⟩:=by
  have:qAh s k=k+(qAh s k-k):=by omega
  conv=>lhs;rw[this,qBu]
 have hsz:(s.extract k (qAh s k)).size=qAh s k-k:=by rw[ByteArray.size_extract];omega
 have hl:s.data.toList.length=s.size:=by simp
 have hv:=qMk (s.extract k (qAh s k)) w (by omega) (by
  intro j hj;have hj':k+j<s.size:=by omega
  have hb:(s.extract k (qAh s k))[j]=s[k+j]:=by simp[ByteArray.getElem_extract]
  rw[hb];exact qPJ s k (k+j) hk h2 (by omega) (by rw[<-qDh s k hk h2];omega) hj')
 refine hv.mono ?_;rintro e w' ⟨rfl,rfl⟩;refine⟨qAI ?_,rfl⟩;rw[he];rfl
theorem qIp(s:ByteArray)(w:World)(hs:8192<s.size)(hs':s.size<=4611686018427387904):
 Calls Tryz.prog 164 #[.string s] w (qEV 213 s w):=by
 go_enter Tryz.func164,Tryz.ntmps164
 go_wp2
 go_ret3
 exact⟨Below.refl _ _,.inr ⟨0,4,by unfold lxs;rw[if_pos hs],rfl,.inr rfl⟩⟩
theorem qHr{s:ByteArray}{w wr w1:World}{k:Nat}{ts:List Tok}{v v':Value}{kind n:Int}{A B:Obj}
 (hk:k<s.size)(hts:ts.length<=k)(hgt:k<qAh s k)(hle:qAh s k<=s.size)(hsk:sk false (s.data.toList.drop k)=s.data.toList.drop k)(hR:qJl s ts k)
 (hnx:nx k (s.data.toList.drop k)=.ok ⟨kind,(s.data.toList.drop k).take (qAh s k-k),n,k⟩)
 (hB:Below w.heap.size w wr)(hv:wr.ownsRow w.heap.size 213 4 v ts.length (qBJ ts))
 (hown:w1.ownsRow w.heap.size 213 4 v' (ts.length+1) (qBJ ts++[.int .i64 kind,.string (s.extract k (qAh s k)),.int .i64 n,.int .i64 k]))
 (hg:((wr.alloc A).alloc B).grownBy w1 v.ownBlock):
 (∃(k':Nat) (ts':List Tok),k'<=s.size/\ts'.length<=k'/\Value.int IntKind.i64 ↑(qDH s false (qAh s k))=.int .i64 k'/\Hid (sk false (s.data.toList.drop k')=s.data.toList.drop k')/\Hid (qJl s ts' k')/\
  Hid (w1.ownsRow w.heap.size 213 4 v' ts'.length (qBJ ts'))/\Hid (Below w.heap.size w w1)):=by
 have hge:=qEE s (qAh s k) hle;refine⟨qDH s false (qAh s k),ts++[⟨kind,(s.data.toList.drop k).take (qAh s k-k),n,k⟩],qHl _ _ _,by simp;omega,rfl,by rw[qBR,qED];rfl,hR.step hk hsk hnx,?_,?_⟩
 ·have he:s.extract k (qAh s k)=⟨((s.data.toList.drop k).take (qAh s k-k)).toArray⟩:=by
   have:qAh s k=k+(qAh s k-k):=by omega
   conv=>lhs;rw[this,qBu]
  rw[he]at hown;rw[qE8,List.length_append];exact hown
 ·have hw:=hB.size
  exact((hB.alloc hw A).alloc (by simp;omega) B).grown hg (by simp;omega) (fun r e=>(hv.lt r e).1)
theorem qHq(s:ByteArray)(w:World)(hs:s.size<=8192):
 Calls Tryz.prog 164 #[.string s] w (qEV 213 s w):=by
 have Hlx:Hid (lxs s=lx s.size s.data.toList):=hZ (by unfold lxs;rw[if_neg (by omega)]);obtain⟨i0,hi,hz0,hz1,hz2⟩:=info_parts qO1;have Hi:=hZ hi;have Hz0:=hZ hz0;have Hz1:=hZ hz1;have Hz2:=hZ hz2;clear hi hz0 hz1 hz2
 go_enter Tryz.func164,Tryz.ntmps164
 go_wp2_with (go_at_call 191;refine(qCy s 0 _ (by omega) (by omega)).mono ?_;rintro e w' ⟨rfl,rfl⟩)
 go_loopw [5,6] (fun v i wr=>∃(k:Nat) (ts:List Tok),k<=s.size/\ts.length<=k/\i=.int .i64 k/\Hid (sk false (s.data.toList.drop k)=s.data.toList.drop k)/\Hid (qJl s ts k)/\Hid (wr.ownsRow w.heap.size 213 4 v ts.length (qBJ ts))/\Hid (Below w.heap.size w wr)) (fun _ i _=>s.size-(intOf i).toNat)
 case atStart=>exact⟨qDH s false 0,[],qHl _ _ _,by simp,rfl,hZ (by rw[qBR,qED]),hZ (qJl.start s),hZ (World.ownsRow_nil _ _ _ _),hZ (Below.refl _ _)⟩
 case round=>
  obtain⟨k,ts,hk,hts,rfl,hsk,hR,hown,hB⟩:=hrel;have hwr:w.heap.size<=wr.heap.size:=hB.o.size;by_cases hlt:k<s.size
  ·by_cases hend:qAh s k=k
   ·have He:=hZ hend
    have hnx:=hZ (qHC s k hlt hend);clear hend
    go_wp2_with (go_at_call 192;refine(qDq s k _ (by omega) hlt).mono ?_;rw[He.o];rintro e w' ⟨rfl,rfl⟩)
    go_ret3
    exact⟨hB.o,.inr ⟨k,2,by rw[Hlx.o];exact hR.o.err hlt hsk.o hnx.o,rfl,.inl rfl⟩⟩
   ·have hge:k<=qAh s k:=by unfold qAh;omega
    have hgt:k<qAh s k:=by omega
    clear hge;have hle:qAh s k<=s.size:=by
     have:=qPY (s.data.toList.drop k);have hl:s.data.toList.length=s.size:=by simp
     rw[List.length_drop]at this;unfold qAh;omega
    have hnend:((qAh s k:Int)==(k:Int))=false:=by rw[beq_eq_false_iff_ne];omega
    clear hend;by_cases h1:cl s[k]=1
    ·have q1:(cl s[k]==1)=true:=by rw[beq_iff_eq];exact h1
     have q2:(cl s[k]==2)=false:=by rw[beq_eq_false_iff_ne];omega
     have hnx0:=hZ (qGZ s k hlt h1);clear h1;by_cases hbig:16<qAh s k-k
     ·have hnx:Hid (nx k (s.data.toList.drop k)=.error 4):=hZ (by rw[hnx0.o,if_pos hbig])
      go_wp2_with (first|(at_builtin;(refine wpList_append_own _ rfl _ _ 210 rfl w.heap.size 213 i0 (.agg #[.int .i64 0,.string ⟨#[]⟩,.int .i64 0,.int .i64 0]) 4 40 Tryz.underlying210 Hi.o Hz0.o Hz1.o Hz2.o rfl (by decide) _ _ _ rfl ((hown.o.alloc _).alloc _) ⟨wr.heap.size+1,0,none⟩ 1 1 [.int .i64 0,.string (s.extract k (qAh s k)),.int .i64 0,.int .i64 k] rfl rfl (qCC _ _ [.int .i64 0,.string (s.extract k (qAh s k)),.int .i64 0,.int .i64 k] _) (by simp[Value.oneCell']) (by unfold maxLen;omega) (by omega) (by simp;omega) ?_);intro v' w1 hown' hgrow _;have Hown':=hZ hown';have Hgrow:=hZ hgrow;clear hown' hgrow)|(go_at_call 192;refine(qDq s k _ (by omega) hlt).mono ?_;rintro e w' ⟨rfl,rfl⟩)|(go_at_call 193;refine(qAG _ _).mono ?_;rintro e w' ⟨rfl,rfl⟩)|(go_at_call 191;refine(qCy s (qAh s k) _ (by omega) hle).mono ?_;rintro e w' ⟨rfl,rfl⟩))
      go_ret3
      exact⟨hB.o.alloc hwr _,.inr ⟨k,4,by rw[Hlx.o];exact hR.o.err hlt hsk.o hnx.o,rfl,.inr rfl⟩⟩
     ·have hnx:Hid (nx k (s.data.toList.drop k)=.ok ⟨0,(s.data.toList.drop k).take (qAh s k-k),0,k⟩):=hZ (by rw[hnx0.o,if_neg hbig])
      go_wp2_with (first|(at_builtin;(refine wpList_append_own _ rfl _ _ 210 rfl w.heap.size 213 i0 (.agg #[.int .i64 0,.string ⟨#[]⟩,.int .i64 0,.int .i64 0]) 4 40 Tryz.underlying210 Hi.o Hz0.o Hz1.o Hz2.o rfl (by decide) _ _ _ rfl ((hown.o.alloc _).alloc _) ⟨wr.heap.size+1,0,none⟩ 1 1 [.int .i64 0,.string (s.extract k (qAh s k)),.int .i64 0,.int .i64 k] rfl rfl (qCC _ _ [.int .i64 0,.string (s.extract k (qAh s k)),.int .i64 0,.int .i64 k] _) (by simp[Value.oneCell']) (by unfold maxLen;omega) (by omega) (by simp;omega) ?_);intro v' w1 hown' hgrow _;have Hown':=hZ hown';have Hgrow:=hZ hgrow;clear hown' hgrow)|(go_at_call 192;refine(qDq s k _ (by omega) hlt).mono ?_;rintro e w' ⟨rfl,rfl⟩)|(go_at_call 193;refine(qAG _ _).mono ?_;rintro e w' ⟨rfl,rfl⟩)|(go_at_call 191;refine(qCy s (qAh s k) _ (by omega) hle).mono ?_;rintro e w' ⟨rfl,rfl⟩))
      go_roundw
      case rel=>exact qHr hlt hts hgt hle hsk.o hR.o hnx.o hB.o hown.o Hown'.o Hgrow.o
      case measure=>
       have:=qEE s (qAh s k) hle;simp[intOf];omega
    ·by_cases h2:cl s[k]=2
     ·have q1:(cl s[k]==1)=false:=by rw[beq_eq_false_iff_ne];exact h1
      have q2:(cl s[k]==2)=true:=by rw[beq_iff_eq];exact h2
      have hnx0:=hZ (qFO s k hlt h2);have hdv:Hid (∀w,Calls Tryz.prog 194 #[.string (s.extract k (qAh s k))] w fun e w'=>e=.returned (.int .i64 (min (qDZ s k (qAh s k)) 1099511627777:Nat))/\w=w'):=hZ (qME s k hlt h2 hgt hle (by omega));clear h1 h2;by_cases hbig:1099511627776<qDZ s k (qAh s k)
      ·have hnx:Hid (nx k (s.data.toList.drop k)=.error 4):=hZ (by rw[hnx0.o,if_pos hbig])
       have hmin:Hid (min (qDZ s k (qAh s k)) 1099511627777=1099511627777):=hZ (by omega)
       go_wp2_with (first|(at_builtin;(refine wpList_append_own _ rfl _ _ 210 rfl w.heap.size 213 i0 (.agg #[.int .i64 0,.string ⟨#[]⟩,.int .i64 0,.int .i64 0]) 4 40 Tryz.underlying210 Hi.o Hz0.o Hz1.o Hz2.o rfl (by decide) _ _ _ rfl ((hown.o.alloc _).alloc _) ⟨wr.heap.size+1,0,none⟩ 1 1 [.int .i64 1,.string (s.extract k (qAh s k)),.int .i64 0,.int .i64 k] rfl rfl (qCC _ _ [.int .i64 1,.string (s.extract k (qAh s k)),.int .i64 0,.int .i64 k] _) (by simp[Value.oneCell']) (by unfold maxLen;omega) (by omega) (by simp;omega) ?_);intro v' w1 hown' hgrow _;have Hown':=hZ hown';have Hgrow:=hZ hgrow;clear hown' hgrow)|(go_at_call 192;refine(qDq s k _ (by omega) hlt).mono ?_;rintro e w' ⟨rfl,rfl⟩)|(go_at_call 193;refine(qAG _ _).mono ?_;rintro e w' ⟨rfl,rfl⟩)|(go_at_call 194;refine(hdv.o _).mono ?_;rw[hmin.o];rintro e w' ⟨rfl,rfl⟩)|(go_at_call 191;refine(qCy s (qAh s k) _ (by omega) hle).mono ?_;rintro e w' ⟨rfl,rfl⟩))
       go_ret3
       exact⟨hB.o.alloc hwr _,.inr ⟨k,4,by rw[Hlx.o];exact hR.o.err hlt hsk.o hnx.o,rfl,.inr rfl⟩⟩
      ·have hnx:Hid (nx k (s.data.toList.drop k)=.ok ⟨1,(s.data.toList.drop k).take (qAh s k-k),qDZ s k (qAh s k),k⟩):=hZ (by rw[hnx0.o,if_neg hbig])
       have hmin:Hid (min (qDZ s k (qAh s k)) 1099511627777=qDZ s k (qAh s k)):=hZ (by omega)
       go_wp2_with (first|(at_builtin;(refine wpList_append_own _ rfl _ _ 210 rfl w.heap.size 213 i0 (.agg #[.int .i64 0,.string ⟨#[]⟩,.int .i64 0,.int .i64 0]) 4 40 Tryz.underlying210 Hi.o Hz0.o Hz1.o Hz2.o rfl (by decide) _ _ _ rfl ((hown.o.alloc _).alloc _) ⟨wr.heap.size+1,0,none⟩ 1 1 [.int .i64 1,.string (s.extract k (qAh s k)),.int .i64 (qDZ s k (qAh s k):Nat),.int .i64 k] rfl rfl (qCC _ _ [.int .i64 1,.string (s.extract k (qAh s k)),.int .i64 (qDZ s k (qAh s k):Nat),.int .i64 k] _) (by simp[Value.oneCell']) (by unfold maxLen;omega) (by omega) (by simp;omega) ?_);intro v' w1 hown' hgrow _;have Hown':=hZ hown';have Hgrow:=hZ hgrow;clear hown' hgrow)|(go_at_call 192;refine(qDq s k _ (by omega) hlt).mono ?_;rintro e w' ⟨rfl,rfl⟩)|(go_at_call 193;refine(qAG _ _).mono ?_;rintro e w' ⟨rfl,rfl⟩)|(go_at_call 194;refine(hdv.o _).mono ?_;rw[hmin.o];rintro e w' ⟨rfl,rfl⟩)|(go_at_call 191;refine(qCy s (qAh s k) _ (by omega) hle).mono ?_;rintro e w' ⟨rfl,rfl⟩))
       go_roundw
       case rel=>exact qHr hlt hts hgt hle hsk.o hR.o hnx.o hB.o hown.o Hown'.o Hgrow.o
       case measure=>
        have:=qEE s (qAh s k) hle;simp[intOf];omega
     ·have q1:(cl s[k]==1)=false:=by rw[beq_eq_false_iff_ne];exact h1
      have q2:(cl s[k]==2)=false:=by rw[beq_eq_false_iff_ne];exact h2
      have hnx:Hid (nx k (s.data.toList.drop k)=.ok ⟨2,(s.data.toList.drop k).take (qAh s k-k),0,k⟩):=hZ (by
       have h0:tl (s.data.toList.drop k)≠0:=by rw[qFz];omega
       rw[<-qFz];rw[qAF s k hlt]at h0 ⊢;unfold nx;simp only[];rw[if_neg h0,if_neg h1,if_neg h2])
      clear h1 h2
      go_wp2_with (first|(at_builtin;(refine wpList_append_own _ rfl _ _ 210 rfl w.heap.size 213 i0 (.agg #[.int .i64 0,.string ⟨#[]⟩,.int .i64 0,.int .i64 0]) 4 40 Tryz.underlying210 Hi.o Hz0.o Hz1.o Hz2.o rfl (by decide) _ _ _ rfl ((hown.o.alloc _).alloc _) ⟨wr.heap.size+1,0,none⟩ 1 1 [.int .i64 2,.string (s.extract k (qAh s k)),.int .i64 0,.int .i64 k] rfl rfl (qCC _ _ [.int .i64 2,.string (s.extract k (qAh s k)),.int .i64 0,.int .i64 k] _) (by simp[Value.oneCell']) (by unfold maxLen;omega) (by omega) (by simp;omega) ?_);intro v' w1 hown' hgrow _;have Hown':=hZ hown';have Hgrow:=hZ hgrow;clear hown' hgrow)|(go_at_call 192;refine(qDq s k _ (by omega) hlt).mono ?_;rintro e w' ⟨rfl,rfl⟩)|(go_at_call 193;refine(qAG _ _).mono ?_;rintro e w' ⟨rfl,rfl⟩)|(go_at_call 191;refine(qCy s (qAh s k) _ (by omega) hle).mono ?_;rintro e w' ⟨rfl,rfl⟩))
      go_roundw
      case rel=>exact qHr hlt hts hgt hle hsk.o hR.o hnx.o hB.o hown.o Hown'.o Hgrow.o
      case measure=>
       have:=qEE s (qAh s k) hle;simp[intOf];omega
  ·go_wp2
   go_ret3
   exact⟨hB.o,.inl ⟨ts,_,by rw[Hlx.o];exact hR.o.ends (by omega),by omega,rfl,hown.o⟩⟩
theorem qJD(s:ByteArray)(w:World)(hs':s.size<=4611686018427387904):
 Calls Tryz.prog 164 #[.string s] w (qEV 213 s w):=by
 by_cases h:8192<s.size
 ·exact qIp s w h hs'
 ·exact qHq s w (by omega)
attribute [local go_sem] Oper.semAt_some
theorem qMA(n:Tx)(w:World)(hn:qGr n):Calls Tryz.prog 119 #[.string ⟨n.toArray⟩] w fun e w'=>e=.returned (.bool true)/\Below w.heap.size w w':=by
 have HT:=hZ (qJD ⟨n.toArray⟩ w (by have:=hn.1;show n.toArray.size<=_;simp;omega));have HN:=hZ hn.2;have hlen:=hn.1;clear hn
 go_enter Tryz.func119,Tryz.ntmps119
 go_wp2_with fail
 refine HT.o.mono ?_;rintro e w5 ⟨hB,⟨ts,v,h1,h2,rfl,ho⟩|⟨k,er,h1,rfl,her⟩⟩
 ·rw[HN.o]at h1
  injection h1 with h1;subst h1;have HB:=hZ hB;obtain⟨g,cap,rfl,-⟩:=ho.form (by simp);have hc0:=ho.cells (g:=g) rfl 0 _ rfl;have hc1:=ho.cells (g:=g) rfl 1 _ rfl;have ha0:(⟨g,0,none⟩:Addr).add 0=⟨g,0,none⟩:=rfl;have ha1:(⟨g,0,none⟩:Addr).add 1=⟨g,1,none⟩:=rfl;rw[ha0]at hc0;rw[ha1]at hc1;simp only[]at hc0 hc1;have hcap:1<=cap/\cap<=9223372036854775807:=by
   rcases ho.2 with ⟨hv,_⟩|⟨_,_,_,hv,_,_,h4,h3,_⟩
   ·cases hv
   ·injection hv with _ _ e
    unfold maxLen at h3;simp at h4;omega
  clear ho hB h2 ha0 ha1;simp only[List.length_cons,List.length_nil]
  go_wp2_with fail
  go_ret;exact⟨rfl,HB.o⟩
 ·rw[HN.o]at h1
  cases h1
def qCE(w:World)(v:Value)(l:List Tx):Prop:=qAb 1 (fun _ (t:Tx) cs=>cs=[.string ⟨t.toArray⟩]) w v l
theorem qCE.below{w w':World}{v:Value}{l:List Tx}(h:qCE w v l)(hb:Below w.heap.size w w'):qCE w' v l:=qAb.below h hb (fun _ _ h=>h)
theorem qCE.at_{w:World}{v:Value}{l:List Tx}(h:qCE w v l)(j:Nat)(hj:j<l.length):
 ∃b cap,v=.slice (some ⟨b,0,none⟩) l.length cap/\b<w.heap.size/\w.cell? ⟨b,j,none⟩=some (.string ⟨l[j].toArray⟩):=by
 obtain⟨b,cap,cs,hv,hb,rfl,_,hc⟩:=qAb.at_ h j hj;have:=hc 0 (by omega);rw[Nat.mul_one,Nat.add_zero]at this;exact⟨b,cap,hv,hb,this⟩
def txV(t:Tx):Value:=.string ⟨t.toArray⟩
theorem qGR{w:World}{base:Nat}{e:TypeId}{v:Value}{l:List Tx}(h:w.ownsRow base e 1 v l.length (l.map txV)):qCE w v l:=by
 refine qAb.of_own (css:=l.map (fun a=>[txV a])) (base:=base) (e:=e) (by rw[qBf,List.length_map];exact h) (by simp) (by simp) ?_;intro j h1 h2;simp[txV]
theorem qNJ:qEv Tryz.prog 58 9 1 16:=qEv.mk (z:=.string ⟨#[]⟩) Tryz.underlying58 (by kernel_rfl) rfl (by decide)
theorem qQa(v:Value)(l:List Tx)(n:Tx)(w:World)(h:qCE w v l):Calls Tryz.prog 120 #[v,.string ⟨n.toArray⟩] w fun e w'=>e=.returned (.bool (decide (n∈l)))/\w'=w:=by
 obtain⟨a,cap,rfl,h1,h2⟩:=h.form;have HL:=hZ h;clear h
 go_enter Tryz.func120,Tryz.ntmps120
 go_wp2_with fail
 go_loop [5] (fun i=>∃j:Nat,j<=l.length/\i=.int .i64 j/\Hid (n∉l.take j)) (fun i=>l.length-(intOf i).toNat)
 case atStart=>exact⟨0,by omega,rfl,hZ (by simp)⟩
 case round=>
  obtain⟨j,hj,rfl,HN⟩:=hrel;by_cases hlt:j<l.length
  ·obtain⟨b1,cap1,hv1,hb1,n0⟩:=qCE.at_ HL.o j hlt
   injection hv1 with e1 e2 e3;subst e1;clear e2 e3;have HT:Hid (l.take (j+1)=l.take j++[l[j]]):=hZ (List.take_succ_eq_append_getElem hlt);have HM:=hZ (List.getElem_mem hlt);generalize l[j]=x at *;by_cases he:x=n
   ·have hq:(x==n)=true:=by rw[he];simp
    have HE:Hid (decide (n∈l)=true):=hZ (decide_eq_true (he▸HM.o))
    go_wp2_with fail
    go_ret;exact⟨by rw[HE.o];rfl,rfl⟩
   ·have hq:(x==n)=false:=by simpa using he
    have HN2:Hid (n∉l.take (j+1)):=hZ (by rw[HT.o];simp[HN.o,Ne.symm he])
    go_wp2_with fail
    go_round
    all_goals first|exact⟨j+1,by omega,by go_num,HN2⟩|(simp[intOf];omega)
  ·have h9:=HN.o
   rw[List.take_of_length_le (show l.length<=j by omega)]at h9;have HE:Hid (decide (n∈l)=false):=hZ (decide_eq_false h9);clear h9
   go_wp2_with fail
   go_ret;exact⟨by rw[HE.o];rfl,rfl⟩
theorem qMZ(l:List Amt)(it M:Nat)(hn:∀a∈l,a.n<=M):∀j,j<=l.length->ofI (l.take j) it<=j*M:=by
 intro j
 induction j with
 |zero=>intro _;simp[qAR]
 |succ j ih=>
  intro hj;have:=ih (by omega);rw[List.take_succ_eq_append_getElem (show j<l.length by omega),qB5,qEd,qAR,Nat.succ_mul];have:=hn l[j] (List.getElem_mem _)
  split<;>omega
theorem qId(v:Value)(l:List Amt)(it:Nat)(w:World)(h:qAl w v l)(hl:l.length<=1000)(hn:∀a∈l,a.n<=1000000)(hi:it<=1000000):
 Calls Tryz.prog 165 #[v,.int .i64 (it:Int)] w fun e w'=>e=.returned (.int .i64 ((ofI l it:Nat):Int))/\w'=w:=by
 obtain⟨a,cap,rfl,h1,h2⟩:=h.form;have HL:=hZ h;have HNN:=hZ hn;have HSM:=hZ (qMZ l it 1000000 hn);clear h hn
 go_enter Tryz.func165,Tryz.ntmps165
 go_wp2_with fail
 go_loop [5,6] (fun s i=>∃j:Nat,j<=l.length/\i=.int .i64 j/\s=.int .i64 ((ofI (l.take j) it:Nat):Int)) (fun _ i=>l.length-(intOf i).toNat)
 case atStart=>exact⟨0,by omega,rfl,by simp[qAR]⟩
 case round=>
  obtain⟨j,hj,rfl,rfl⟩:=hrel;by_cases hlt:j<l.length
  ·obtain⟨b1,cap1,hv1,hb1,y0,y1⟩:=qAl.at_ HL.o j hlt
   injection hv1 with e1 e2 e3;subst e1;clear e2 e3;have hs:=HSM.o j (by omega);have hx:=HNN.o l[j] (List.getElem_mem hlt);have HT:Hid (ofI (l.take (j+1)) it=ofI (l.take j) it+if l[j].item=it then l[j].n else 0):=hZ (by rw[List.take_succ_eq_append_getElem hlt,qB5,qEd,qAR];rfl);generalize l[j]=x at *;obtain⟨xi,xn⟩:=x;simp only[]at y0 y1 hx HT;obtain⟨S,hS⟩:=eX (ofI (l.take j) it);rw[hS]at hs HT ⊢;by_cases he:xi=it
   ·have q1:((xi:Int)==(it:Int))=true:=by rw[he];simp
    have q2:(xi==it)=true:=by rw[he];simp
    have hw:IntKind.i64.wrap ((S:Int)+(xn:Int))=((S+xn:Nat):Int):=by rw[IntWalk.i64_in _ (by omega)];omega
    rw[if_pos he]at HT;clear he
    go_wp2_with fail
    go_round
    case rel=>exact⟨j+1,by omega,by go_num,by rw[HT.o];congr 1⟩
    case measure=>simp[intOf];omega
   ·have q1:((xi:Int)==(it:Int))=false:=by simp;omega
    have q2:(xi==it)=false:=by simpa using he
    rw[if_neg he]at HT;clear he
    go_wp2_with fail
    go_round
    case rel=>exact⟨j+1,by omega,by go_num,by rw[HT.o];rfl⟩
    case measure=>simp[intOf];omega
  ·rw[List.take_of_length_le (show l.length<=j by omega)]
   go_wp2_with fail
   go_ret;exact⟨rfl,rfl⟩
theorem qHK(n:Tx)(w:World):Calls Tryz.prog 121 #[qLN n] w fun e w'=>e=.returned (.int .i64 0)/\Below w.heap.size w w':=by
 unfold qLN
 go_enter Tryz.func121,Tryz.ntmps121
 go_wp2_with fail
 go_ret;exact⟨rfl,aR⟩
theorem qGD(r:Rul)(p:Pl)(n:Nat)(w:World)(hr:qFf w r p)(hg:qD2 n r)(hn:n<=1000):Calls Tryz.prog 122 #[qGu r p] w fun e w'=>e=.returned (.tuple #[.bool false,.bool false,.bool false])/\Below w.heap.size w w':=by
 have HR:=hZ hr;have HG:=hZ hg;obtain⟨rn,rs,rt,ro,lt,lg,lb⟩:=r;have ht:=hg.take.len;have hgv:=hg.give.len;have hbk:=hg.back.len;have ho1:=hg.of1;have ho2:=hg.of2;have htm:=hg.time;have hsp:=hg.spawn;have hpl:=hg.player;have hhb:=hg.hasBack;have hwi:=hg.within;have hc1:=hr.t1;have hc2:=hr.g1;have hc3:=hr.b1;simp only[]at ht hgv hbk ho1 ho2 htm hsp hpl hhb hc1 hc2 hc3 hwi;unfold qGu;simp only[];clear hr hg
 go_enter Tryz.func122,Tryz.ntmps122
 cases rs with
 |true=>
  obtain⟨h1,h2,h3,h4⟩:=hsp rfl;subst h1 h2 h3 h4;clear hsp hpl hhb hwi ho1 ho2 htm ht hbk;have q1:decide (64<(lg.length:Int))=false:=decide_eq_false (by omega);have q2:decide (64<(0:Int)+(lg.length:Int))=false:=decide_eq_false (by omega);simp only[List.length_nil]at *;have HB1:Hid (Below w.heap.size w (w.alloc (.cells #[.string ⟨rn.toArray⟩,.bool true,.int .i64 0,.int .i64 0,.int .i64 1,.int .i64 1,.slice p.at_ 0 p.ct,.slice p.ag lg.length p.cg,.slice p.ab 0 p.cb] 54))):=hZ aR;have HK1:Hid (qAf (w.alloc (.cells #[.string ⟨rn.toArray⟩,.bool true,.int .i64 0,.int .i64 0,.int .i64 1,.int .i64 1,.slice p.at_ 0 p.ct,.slice p.ag lg.length p.cg,.slice p.ab 0 p.cb] 54)) w.heap.size 54 [.string ⟨rn.toArray⟩,.bool true,.int .i64 0,.int .i64 0,.int .i64 1,.int .i64 1,.slice p.at_ 0 p.ct,.slice p.ag lg.length p.cg,.slice p.ab 0 p.cb]):=hZ (qAf.new _ _ _)
  go_wp2_with fail
  go_loopw [6,7] (fun m i wr=>m=.bool false/\i=.int .i64 0/\Hid (Below w.heap.size w wr)/\Hid (qAf wr w.heap.size 54 [.string ⟨rn.toArray⟩,.bool true,.int .i64 0,.int .i64 0,.int .i64 1,.int .i64 1,.slice p.at_ 0 p.ct,.slice p.ag lg.length p.cg,.slice p.ab 0 p.cb])) (fun _ _ _=>0)
  case atStart=>exact⟨rfl,rfl,HB1,HK1⟩
  case round=>
   obtain⟨rfl,rfl,HB2,HK2⟩:=hrel;have m2:=HK2.o.cell 2;have m3:=HK2.o.cell 3;have m4:=HK2.o.cell 4;have m5:=HK2.o.cell 5;have m8:=HK2.o.cell 8;simp only[List.getElem?_cons_succ,List.getElem?_cons_zero]at m2 m3 m4 m5 m8
   go_wp2_with fail
   go_ret3
   exact⟨rfl,HB2.o⟩
 |false=>
  by_cases ht0:lt=[]
  ·have h1:rt=1:=(hpl rfl).resolve_left (fun h=>h ht0)
   have h2:lb=[]:=by rcases hwi with h|h;exact h;rw[h,ht0]
   subst ht0 h1 h2;clear hsp hpl hhb hwi htm ht hbk;have q1:decide (64<(lg.length:Int))=false:=decide_eq_false (by omega);have q2:decide (64<(0:Int)+(lg.length:Int))=false:=decide_eq_false (by omega);have qc:decide ((ro:Int)<1)=false:=decide_eq_false (by omega);have qd:decide (1000000<(ro:Int))=false:=decide_eq_false (by omega);simp only[List.length_nil]at *;have HB1:Hid (Below w.heap.size w (w.alloc (.cells #[.string ⟨rn.toArray⟩,.bool false,.int .i64 0,.int .i64 1,.int .i64 1,.int .i64 ro,.slice p.at_ 0 p.ct,.slice p.ag lg.length p.cg,.slice p.ab 0 p.cb] 54))):=hZ aR;have HK1:Hid (qAf (w.alloc (.cells #[.string ⟨rn.toArray⟩,.bool false,.int .i64 0,.int .i64 1,.int .i64 1,.int .i64 ro,.slice p.at_ 0 p.ct,.slice p.ag lg.length p.cg,.slice p.ab 0 p.cb] 54)) w.heap.size 54 [.string ⟨rn.toArray⟩,.bool false,.int .i64 0,.int .i64 1,.int .i64 1,.int .i64 ro,.slice p.at_ 0 p.ct,.slice p.ag lg.length p.cg,.slice p.ab 0 p.cb]):=hZ (qAf.new _ _ _)
   go_wp2_with fail
   go_loopw [6,7] (fun m i wr=>m=.bool false/\i=.int .i64 0/\Hid (Below w.heap.size w wr)/\Hid (qAf wr w.heap.size 54 [.string ⟨rn.toArray⟩,.bool false,.int .i64 0,.int .i64 1,.int .i64 1,.int .i64 ro,.slice p.at_ 0 p.ct,.slice p.ag lg.length p.cg,.slice p.ab 0 p.cb])) (fun _ _ _=>0)
   case atStart=>exact⟨rfl,rfl,HB1,HK1⟩
   case round=>
    obtain⟨rfl,rfl,HB2,HK2⟩:=hrel;have m2:=HK2.o.cell 2;have m3:=HK2.o.cell 3;have m4:=HK2.o.cell 4;have m5:=HK2.o.cell 5;have m8:=HK2.o.cell 8;simp only[List.getElem?_cons_succ,List.getElem?_cons_zero]at m2 m3 m4 m5 m8
    go_wp2_with fail
    go_ret3
    exact⟨rfl,HB2.o⟩
  ·have h1:0<lt.length:=List.length_pos_iff.2 ht0
   have e1:((lt.length:Int)==0)=false:=by simp;omega
   have e2:(lt.length==0)=false:=by simp;omega
   have q8:decide (64<(lt.length:Int)+(lg.length:Int))=false:=decide_eq_false (by omega);have q9:decide (64<(lt.length:Int)+(lb.length:Int))=false:=decide_eq_false (by omega);have qa:decide ((rt:Int)<0)=false:=decide_eq_false (by omega);have qb:decide (1000000<(rt:Int))=false:=decide_eq_false (by omega);have qc:decide ((ro:Int)<1)=false:=decide_eq_false (by omega);have qd:decide (1000000<(ro:Int))=false:=decide_eq_false (by omega);have w8:IntKind.i64.wrap ((lt.length:Int)+(lg.length:Int))=(lt.length:Int)+(lg.length:Int):=IntWalk.i64_in _ (by omega);have w9:IntKind.i64.wrap ((lt.length:Int)+(lb.length:Int))=(lt.length:Int)+(lb.length:Int):=IntWalk.i64_in _ (by omega);by_cases hb0:lb=[]
   ·subst hb0
    clear hsp hpl hhb hwi hbk;have q7:decide (64<(lt.length:Int))=false:=decide_eq_false (by omega);have q6:decide (64<(lt.length:Int)+(0:Int))=false:=decide_eq_false (by omega);simp only[List.length_nil]at *;have HB1:Hid (Below w.heap.size w (w.alloc (.cells #[.string ⟨rn.toArray⟩,.bool false,.int .i64 0,.int .i64 rt,.int .i64 1,.int .i64 ro,.slice p.at_ lt.length p.ct,.slice p.ag lg.length p.cg,.slice p.ab 0 p.cb] 54))):=hZ aR;have HK1:Hid (qAf (w.alloc (.cells #[.string ⟨rn.toArray⟩,.bool false,.int .i64 0,.int .i64 rt,.int .i64 1,.int .i64 ro,.slice p.at_ lt.length p.ct,.slice p.ag lg.length p.cg,.slice p.ab 0 p.cb] 54)) w.heap.size 54 [.string ⟨rn.toArray⟩,.bool false,.int .i64 0,.int .i64 rt,.int .i64 1,.int .i64 ro,.slice p.at_ lt.length p.ct,.slice p.ag lg.length p.cg,.slice p.ab 0 p.cb]):=hZ (qAf.new _ _ _)
    go_wp2_with fail
    go_loopw [6,7] (fun m i wr=>m=.bool false/\i=.int .i64 0/\Hid (Below w.heap.size w wr)/\Hid (qAf wr w.heap.size 54 [.string ⟨rn.toArray⟩,.bool false,.int .i64 0,.int .i64 rt,.int .i64 1,.int .i64 ro,.slice p.at_ lt.length p.ct,.slice p.ag lg.length p.cg,.slice p.ab 0 p.cb])) (fun _ _ _=>0)
    case atStart=>exact⟨rfl,rfl,HB1,HK1⟩
    case round=>
     obtain⟨rfl,rfl,HB2,HK2⟩:=hrel;have m2:=HK2.o.cell 2;have m3:=HK2.o.cell 3;have m4:=HK2.o.cell 4;have m5:=HK2.o.cell 5;have m8:=HK2.o.cell 8;simp only[List.getElem?_cons_succ,List.getElem?_cons_zero]at m2 m3 m4 m5 m8
     go_wp2_with fail
     go_ret3
     exact⟨rfl,HB2.o⟩
   ·have h2:=hhb hb0
    obtain rfl:lb=lt:=hwi.resolve_left hb0;have g1:((1:Int)==(ro:Int))=false:=by simp;omega
    clear hsp hpl hhb hwi hb0 h2;have HB1:Hid (Below w.heap.size w (w.alloc (.cells #[.string ⟨rn.toArray⟩,.bool false,.int .i64 0,.int .i64 rt,.int .i64 1,.int .i64 ro,.slice p.at_ lb.length p.ct,.slice p.ag lg.length p.cg,.slice p.ab lb.length p.cb] 54))):=hZ aR;have HK1:Hid (qAf (w.alloc (.cells #[.string ⟨rn.toArray⟩,.bool false,.int .i64 0,.int .i64 rt,.int .i64 1,.int .i64 ro,.slice p.at_ lb.length p.ct,.slice p.ag lg.length p.cg,.slice p.ab lb.length p.cb] 54)) w.heap.size 54 [.string ⟨rn.toArray⟩,.bool false,.int .i64 0,.int .i64 rt,.int .i64 1,.int .i64 ro,.slice p.at_ lb.length p.ct,.slice p.ag lg.length p.cg,.slice p.ab lb.length p.cb]):=hZ (qAf.new _ _ _);have q1:decide (0<(lb.length:Int))=true:=decide_eq_true (by omega);have q2:decide (0<lb.length)=true:=decide_eq_true (by omega)
    go_wp2_with fail
    go_loopw [6,7] (fun m i wr=>∃j:Nat,j<=lb.length/\m=.bool false/\i=.int .i64 j/\Hid (Below w.heap.size w wr)/\Hid (qAf wr w.heap.size 54 [.string ⟨rn.toArray⟩,.bool false,.int .i64 0,.int .i64 rt,.int .i64 1,.int .i64 ro,.slice p.at_ lb.length p.ct,.slice p.ag lg.length p.cg,.slice p.ab lb.length p.cb])) (fun _ i _=>lb.length-(intOf i).toNat)
    case atStart=>exact⟨0,by omega,rfl,rfl,HB1,HK1⟩
    case round=>
     obtain⟨j,hj,rfl,rfl,HB2,HK2⟩:=hrel;have m8:=HK2.o.cell 8;have m6:=HK2.o.cell 6;simp only[List.getElem?_cons_succ,List.getElem?_cons_zero]at m6 m8;have mlt:=HK2.o.lt;by_cases hlt:j<lb.length
     ·have HT2:=hZ (HR.o.take.below HB2.o)
      have HA2:=hZ (HR.o.back.below HB2.o);simp only[]at HT2 HA2;obtain⟨b3,cap3,hv3,hb3,y0,y1⟩:=qAl.at_ HA2.o j hlt;injection hv3 with e1 e2 e3;have hit:=HG.o.back.all lb[j] (List.getElem_mem hlt);have hna:=HG.o.back.all;simp only[]at hit hna;have HNA:Hid (∀a∈lb,a.n<=1000000):=hZ (fun a ha=>by have:=hna a ha;omega);generalize lb[j]=x at *;obtain⟨xi,xn⟩:=x;simp only[]at y0 y1 hit;rw[e1]at m8 HA2;clear e1 e2 e3 hna y1;have q5:decide (((ofI lb xi:Nat):Int)<((ofI lb xi:Nat):Int))=false:=decide_eq_false (by omega);have i1:(j:Int)<(lb.length:Int):=by omega
      go_wp2_with fail
      refine qBQ 99 (fun W=>W.cell? ⟨w.heap.size,6,none⟩=some (.slice p.at_ lb.length p.ct)/\W.cell? ⟨w.heap.size,8,none⟩=some (.slice (some ⟨b3,0,none⟩) lb.length p.cb)/\W.cell? ⟨b3,j*2,none⟩=some (.int .i64 (xi:Int))) (by kernel_rfl) (⟨m6,m8,y0⟩) (fun hHeld=> ?_);refine kU 0 86 ?_;refine kU 1 87 ?_;refine kU 2 88 ?_;refine kU 3 89 ?_;refine kU 4 90 ?_;refine kU 5 91 ?_;refine kU 6 92 ?_;refine kU 7 93 ?_;refine kU 8 94 ?_;refine kU 9 95 ?_;refine kU 11 97 ?_;refine kU 12 98 ?_;refine kU 13 99 ?_;refine kU 14 100 ?_;refine kU 15 101 ?_;refine kU 16 102 ?_;refine kU 17 103 ?_;refine kU 18 104 ?_;refine qA2 10 (by kernel_rfl) rfl (fun K hK=> ?_);go_simp;refine(qId _ lb xi _ (qAl.below HA2.o (Below.refl _ _).drew) (by omega) HNA.o (by omega)).mono ?_;rintro e w5 ⟨rfl,hw5⟩;rw[hw5];clear hHeld
      go_wp2_with fail
      refine hK.out _ _ (⟨m6,m8,y0⟩) (fun hHeld=> ?_);clear hK K
      try simp only[Act.put,List.setIfInBounds_toArray,List.set_cons_zero,List.set_cons_succ]
      refine qA2 19 (by kernel_rfl) rfl (fun K hK=> ?_);go_simp;refine(qId _ lb xi _ (qAl.below HT2.o (Below.refl _ _).drew) (by omega) HNA.o (by omega)).mono ?_;rintro e w6 ⟨rfl,hw6⟩;rw[hw6];clear hHeld
      go_wp2_with fail
      refine hK.out _ _ (⟨m6,m8,y0⟩) (fun hHeld=> ?_);clear hK K
      try simp only[Act.put,List.setIfInBounds_toArray,List.set_cons_zero,List.set_cons_succ]
      refine kU 20 106 ?_;refine kU 21 107 ?_;refine kU 22 6 ?_;refine qGK (by kernel_rfl) ?_ _;clear hHeld
      go_wp2_with fail
      go_roundw
      case rel=>exact⟨j+1,by omega,rfl,by go_num,hZ HB2.o.drew,hZ HK2.o.drew⟩
      case measure=>simp[intOf];omega
     ·obtain rfl:lb.length=j:=by omega
      have m2:=HK2.o.cell 2;have m3:=HK2.o.cell 3;have m4:=HK2.o.cell 4;have m5:=HK2.o.cell 5;simp only[List.getElem?_cons_succ,List.getElem?_cons_zero]at m2 m3 m4 m5
      go_wp2_with fail
      go_ret3
      exact⟨rfl,HB2.o⟩
attribute [local go_sem] Oper.semAt_some
theorem qCc{P:Program}{W0 w:World}{ops:Array Oper}{o:Oper}{a:Act}{K:Act->World->Prop}{Q:Exit->Act->World->Prop}{E:Prop}{B k bytes:Nat}{t e:TypeId}(hE:qEv P t e k bytes)(hgd:o.guard=none)(d:Nat)(hd:o.dst=some d)(s x:Operand)
 (ho:o.op=.call { callee:=.builtin .append,args:=#[s,x],argTypes:=#[t,t] })
 (v:Value)(n:Nat)(xs:List Value)(hs:a.eval s=v)(ad:Addr)(m c:Nat)(cs:List Value)(hx:a.eval x=.slice (some ad) m c)(hcs:cs.length=m*k)(hnews:∀j u,cs[j]? =some u->w.cell? (ad.add j)=some u)(h1:∀u∈cs,u.oneCell'=true)(hm:0<m)
 (hown:w.ownsRow B e k v n xs)(hB:Below B W0 w)(hle:B<=w.heap.size)(hn:n+m<=1000000000)(hby:bytes<=1000)
 (h:∀g cap w',Hid (w'.ownsRow B e k (.slice (some ⟨g,0,none⟩) (n+m) cap) (n+m) (xs++cs))->Hid (Below B W0 w')->Hid (qAc (fun b=>v.ownBlock=some b) w w')->cap<=9223372036854775807->n+m<=cap->K ⟨a.tmps.setIfInBounds d (.slice (some ⟨g,0,none⟩) (n+m) cap),a.defers⟩ w'):
 if Region.wanted o (yielded ops a.tmps)=true then Oper.wp P o a w K Q else E:=by
 obtain⟨ht,i,z,hi,hz,hsize,hbyt,hzs,hk⟩:=hE;have hcap:(n+m)*bytes<=140737488355328:=Nat.le_trans (Nat.mul_le_mul hn hby) (by decide);refine step_append_lies w hgd s x t ho B e i z k bytes ht hi hz hsize hbyt hzs hk v n xs hs hown ad m c cs hx hcs hnews h1 hm (by unfold maxLen;omega) hcap hle w.heap.size rfl ?_;intro g cap w' ho' hg hat hlt;have hO:=qBz hg;have hc2:cap<=9223372036854775807/\n+m<=cap:=by
  rcases ho'.2 with ⟨hv,_⟩|⟨_,_,_,hv,_,_,h4,h3,_⟩
  ·cases hv
  ·injection hv with _ _ e
   unfold maxLen at h3;omega
 rw[hd];exact h g cap w' (hZ ho') (hZ (hO.below hB hle (fun k e=>(hown.lt k e).1))) (hZ hO) hc2.1 hc2.2
def qFb(w:World)(v:Value)(l:List (List Tx)):Prop:=qAb 1 (fun w x cs=>∃u,cs=[u]/\qCE w u x) w v l
def qCT(w:World)(v:Value)(l:List (List Amt)):Prop:=qAb 1 (fun w x cs=>∃u,cs=[u]/\qAl w u x) w v l
theorem qFb.below{w w':World}{v:Value}{l:List (List Tx)}(h:qFb w v l)(hb:Below w.heap.size w w'):qFb w' v l:=qAb.below h hb (fun _ _ ⟨u,h1,h2⟩=>⟨u,h1,h2.below hb⟩)
theorem qCT.below{w w':World}{v:Value}{l:List (List Amt)}(h:qCT w v l)(hb:Below w.heap.size w w'):qCT w' v l:=qAb.below h hb (fun _ _ ⟨u,h1,h2⟩=>⟨u,h1,h2.below hb⟩)
theorem qFb.at_{w:World}{v:Value}{l:List (List Tx)}(h:qFb w v l)(j:Nat)(hj:j<l.length):
 ∃b cap u,v=.slice (some ⟨b,0,none⟩) l.length cap/\b<w.heap.size/\w.cell? ⟨b,j,none⟩=some u/\qCE w u l[j]:=by
 obtain⟨b,cap,cs,hv,hb,⟨u,rfl,hu⟩,_,hc⟩:=qAb.at_ h j hj;have:=hc 0 (by omega);rw[Nat.mul_one,Nat.add_zero]at this;exact⟨b,cap,u,hv,hb,this,hu⟩
theorem qCT.at_{w:World}{v:Value}{l:List (List Amt)}(h:qCT w v l)(j:Nat)(hj:j<l.length):
 ∃b cap u,v=.slice (some ⟨b,0,none⟩) l.length cap/\b<w.heap.size/\w.cell? ⟨b,j,none⟩=some u/\qAl w u l[j]:=by
 obtain⟨b,cap,cs,hv,hb,⟨u,rfl,hu⟩,_,hc⟩:=qAb.at_ h j hj;have:=hc 0 (by omega);rw[Nat.mul_one,Nat.add_zero]at this;exact⟨b,cap,u,hv,hb,this,hu⟩
theorem qR4{w:World}{t:TypeId}{va vb:Value}{A B:List Tx}(h1:qCE w va A)(h2:qCE w vb B):qFb (w.alloc (.cells #[va,vb,.slice none 0 0,.slice none 0 0] t)) (.slice (some ⟨w.heap.size,0,none⟩) 4 4) [A,B,[],[]]:=by
 have hb:Below w.heap.size w (w.alloc (.cells #[va,vb,.slice none 0 0,.slice none 0 0] t)):=aR;have hk:=qAf.new w t [va,vb,.slice none 0 0,.slice none 0 0];refine qBc (css:=[[va],[vb],[.slice none 0 0],[.slice none 0 0]]) (xs:=[A,B,[],[]]) (cap:=4) hk (by simp) rfl ?_ (by simp) (by omega);intro j hj hj'
 match j,hj with
 |0,_=>exact⟨_,rfl,h1.below hb⟩
 |1,_=>exact⟨_,rfl,h2.below hb⟩
 |2,_=>exact⟨_,rfl,qAb.nil _ _ (by omega)⟩
 |3,_=>exact⟨_,rfl,qAb.nil _ _ (by omega)⟩
theorem qM6(vi vr:Value)(c:Cat)(w:World)(hc:qAS w vi vr c)(hl:c.items.length<=1000)(hl2:c.rules.length<=1000):
 Calls Tryz.prog 118 #[qBo vi vr] w fun e w'=>(∃v,e=.returned v/\qFb w' v [c.items,c.rules.map (fun r=>r.name),[],[]])/\Below w.heap.size w w':=by
 obtain⟨ai,ci,rfl,hi1,hi2⟩:=hc.items.form;obtain⟨ar,cr,rfl,hr1,hr2⟩:=hc.rules.form;have HC:=hZ hc;clear hc;unfold qBo;obtain⟨w1,hw1⟩:=eX (w.alloc (.cells #[.slice ai c.items.length ci,.slice ar c.rules.length cr,.slice none 0 0,.slice none 0 0] 28));have HB:Hid (Below w.heap.size w w1):=hZ (by rw[<-hw1];exact aR);have HX:Hid (qBw w1 w.heap.size (.slice ai c.items.length ci) (.slice ar c.rules.length cr)):=hZ (by rw[<-hw1];exact qBw.new _ _ _);have m0:=HX.o.c0;have m1:=HX.o.c1;have m2:=HX.o.c2;have m3:=HX.o.c3;have mlt:=HX.o.lt
 go_enter Tryz.func118,Tryz.ntmps118
 go_wp2_with fail
 clear hw1
 go_loopw [3,7] (fun o i wr=>∃(j:Nat) (ga:Option Addr) (gc:Nat),j<=c.items.length/\i=.int .i64 j/\o=.slice ga j gc/\gc<=9223372036854775807/\j<=gc/\Hid (wr.ownsRow w1.heap.size 9 1 (.slice ga j gc) j ((c.items.take j).map txV))/\Hid (Below w1.heap.size w1 wr)) (fun _ i _=>c.items.length-(intOf i).toNat)
 case atStart=>exact⟨0,none,0,by omega,rfl,rfl,by omega,by omega,hZ (World.ownsRow_nil _ _ _ _),hZ (Below.refl _ _)⟩
 case round=>
  obtain⟨j,ga,gc,hj,rfl,rfl,hgc,hjg,HO,HBl⟩:=hrel;have hBk:=HBl.o;replace HB:=hZ (HB.o.trans (hBk.mono HB.o.size));replace HX:=hZ (HX.o.below hBk);clear hBk
  try clear m0
  try clear m1
  try clear m2
  try clear m3
  try clear mlt
  have m0:=HX.o.c0;have m1:=HX.o.c1;have m2:=HX.o.c2;have m3:=HX.o.c3;have mlt:=HX.o.lt;by_cases hlt:j<c.items.length
  ·obtain⟨b,cap,cs,hv,hb,hcs,_,hcc⟩:=qAb.at_ (HC.o.items.below HB.o) j hlt
   injection hv with e1 e2 e3;subst e1;clear e2 e3;have x0:=hcc 0 (by omega);rw[hcs]at x0;have x0:wr.cell? ⟨b,j*7,none⟩=some (.string ⟨c.items[j].toArray⟩):=by simpa[qBF]using x0
   have HTK:Hid (c.items.take (j+1)=c.items.take j++[c.items[j]]):=hZ (List.take_succ_eq_append_getElem hlt);clear hcs hcc;generalize c.items[j]=x at *
   go_wp2_with (at_builtin;refine qAn (W0:=w1) qNJ rfl _ _ rfl [.string ⟨x.toArray⟩] 9 _ _ _ rfl rfl rfl (by simp[Value.oneCell']) HO.o HBl.o HBl.o.size (by omega) (by omega) ?_)
   intro g6 cap6 w6 Hown6 HB6 HO6 hcap6 hat6;have Hown7:Hid (w6.ownsRow w1.heap.size 9 1 (.slice (some ⟨g6,0,none⟩) (j+1) cap6) (j+1) ((c.items.take (j+1)).map txV)):=hZ (by rw[HTK.o];have h9:=Hown6.o;simpa[txV]using h9);have hcl:j+1<=cap6:=by
    rcases Hown7.o.2 with ⟨hv,_⟩|⟨_,_,_,hv,_,_,h4,h3,_⟩
    ·cases hv
    ·injection hv with _ _ e;omega
   clear Hown6 HO6 hat6 HO
   go_wp2_with fail
   go_roundw
   case rel=>exact⟨j+1,some ⟨g6,0,none⟩,cap6,by omega,by go_num,rfl,hcap6,hcl,Hown7,HB6⟩
   case measure=>simp[intOf];omega
  ·obtain rfl:j=c.items.length:=by omega
   have HN1:Hid (qCE wr (.slice ga c.items.length gc) c.items):=hZ (qGR (by have h9:=HO.o;rwa [List.take_of_length_le (Nat.le_refl _)]at h9));clear HO HBl;obtain⟨w2,rfl⟩:=eY wr
   go_wp2_with fail
   clear m0 m1 m2 m3 mlt
   go_loopw [4,8] (fun o i wr=>∃(j:Nat) (ga:Option Addr) (gc:Nat),j<=c.rules.length/\i=.int .i64 j/\o=.slice ga j gc/\gc<=9223372036854775807/\j<=gc/\Hid (wr.ownsRow w2.heap.size 9 1 (.slice ga j gc) j ((c.rules.take j).map (fun r=>txV r.name)))/\Hid (Below w2.heap.size w2 wr)) (fun _ i _=>c.rules.length-(intOf i).toNat)
   case atStart=>exact⟨0,none,0,by omega,rfl,rfl,by omega,by omega,hZ (World.ownsRow_nil _ _ _ _),hZ (Below.refl _ _)⟩
   case round=>
    obtain⟨j,gb,gd,hj,rfl,rfl,hgd,hjd,HO,HBl⟩:=hrel;replace HN1:=hZ (HN1.o.below HBl.o);have hBk:=HBl.o;replace HB:=hZ (HB.o.trans (hBk.mono HB.o.size));replace HX:=hZ (HX.o.below hBk);clear hBk
    try clear m0
    try clear m1
    try clear m2
    try clear m3
    try clear mlt
    have m0:=HX.o.c0;have m1:=HX.o.c1;have m2:=HX.o.c2;have m3:=HX.o.c3;have mlt:=HX.o.lt;by_cases hlt:j<c.rules.length
    ·obtain⟨b,cap,p,hv,hb,hr,hcs⟩:=qA1.at_ (HC.o.rules.below HB.o) j hlt
     injection hv with e1 e2 e3;subst e1;clear e2 e3;have x0:=hcs.c0;have HTK:Hid (c.rules.take (j+1)=c.rules.take j++[c.rules[j]]):=hZ (List.take_succ_eq_append_getElem hlt);clear hr hcs;generalize c.rules[j]=x at *
     go_wp2_with (at_builtin;refine qAn (W0:=w2) qNJ rfl _ _ rfl [.string ⟨x.name.toArray⟩] 9 _ _ _ rfl rfl rfl (by simp[Value.oneCell']) HO.o HBl.o HBl.o.size (by omega) (by omega) ?_)
     intro g6 cap6 w6 Hown6 HB6 HO6 hcap6 hat6;have Hown7:Hid (w6.ownsRow w2.heap.size 9 1 (.slice (some ⟨g6,0,none⟩) (j+1) cap6) (j+1) ((c.rules.take (j+1)).map (fun r=>txV r.name))):=hZ (by rw[HTK.o];have h9:=Hown6.o;simpa[txV]using h9);have hcl:j+1<=cap6:=by
      rcases Hown7.o.2 with ⟨hv,_⟩|⟨_,_,_,hv,_,_,h4,h3,_⟩
      ·cases hv
      ·injection hv with _ _ e;omega
     clear Hown6 HO6 hat6 HO
     go_wp2_with fail
     go_roundw
     case rel=>exact⟨j+1,some ⟨g6,0,none⟩,cap6,by omega,by go_num,rfl,hcap6,hcl,Hown7,HB6⟩
     case measure=>simp[intOf];omega
    ·obtain rfl:j=c.rules.length:=by omega
     have HN2:Hid (qCE wr (.slice gb c.rules.length gd) (c.rules.map (fun r=>r.name))):=hZ (by
      have h9:=HO.o;rw[List.take_of_length_le (Nat.le_refl _)]at h9;have h8:=qGR (l:=c.rules.map (fun r=>r.name)) (v:=.slice gb c.rules.length gd) (base:=w2.heap.size) (e:=9) (w:=wr) (by rw[List.length_map,List.map_map];exact h9);exact h8)
     clear HO HBl;obtain⟨w3,rfl⟩:=eY wr
     go_wp2_with fail
     go_loopw [5,9] (fun o i wr=>o=.slice none 0 0/\i=.int .i64 0/\Hid (wr=w3)) (fun _ _ _=>0)
     case atStart=>exact⟨rfl,rfl,hZ rfl⟩
     case round=>
      obtain⟨rfl,rfl,HW⟩:=hrel;obtain rfl:=HW.o;clear HW
      go_wp2_with fail
      go_loopw [6,10] (fun o i wr2=>o=.slice none 0 0/\i=.int .i64 0/\Hid (wr2=wr)) (fun _ _ _=>0)
      case atStart=>exact⟨rfl,rfl,hZ rfl⟩
      case round=>
       obtain⟨rfl,rfl,HW⟩:=hrel;obtain rfl:=HW.o;clear HW
       go_wp2_with fail
       go_ret;exact⟨⟨_,rfl,qR4 HN1.o HN2.o⟩,HB.o.alloc HB.o.size _⟩
theorem qPi:qEv Tryz.prog 144 52 1 24:=qEv.mk (z:=.slice none 0 0) Tryz.underlying144 (by kernel_rfl) rfl (by decide)
def qAP(l:List Rul):List (List Amt):=l.flatMap (fun r=>[r.take,r.give,r.back])
theorem qHp(l:List Rul):(qAP l).length=l.length*3:=by
 unfold qAP
 induction l with
 |nil=>rfl
 |cons x l ih=>
  rw[List.flatMap_cons,List.length_append,ih];simp only[List.length_cons,List.length_nil];omega
theorem qGB(l:List Rul)(x:Rul):qAP (l++[x])=qAP l++[x.take,x.give,x.back]:=by simp[qAP]
def qCU(w:World):List Value->List (List Amt)->Prop
 |[],[]=>True
 |u::us,x::xs=>qAl w u x/\qCU w us xs
 |_,_=>False
theorem qCU.below{w w':World}(hb:Below w.heap.size w w'):∀{us:List Value} {xs:List (List Amt)},qCU w us xs->qCU w' us xs
 |[],[],_=>trivial
 |_::_,_::_,h=>⟨h.1.below hb,qCU.below hb h.2⟩
 |[],_::_,h=>h.elim
 |_::_,[],h=>h.elim
theorem qCU.append{w:World}:∀{us vs:List Value} {xs ys:List (List Amt)},qCU w us xs->qCU w vs ys->qCU w (us++vs) (xs++ys)
 |[],vs,[],ys,_,h=>h
 |_::_,vs,_::_,ys,h,h2=>⟨h.1,qCU.append h.2 h2⟩
 |[],_,_::_,_,h,_=>h.elim
 |_::_,_,[],_,h,_=>h.elim
theorem qCU.len{w:World}:∀{us:List Value} {xs:List (List Amt)},qCU w us xs->us.length=xs.length
 |[],[],_=>rfl
 |_::_,_::_,h=>by simp[qCU.len h.2]
 |[],_::_,h=>h.elim
 |_::_,[],h=>h.elim
theorem qCU.at_{w:World}:∀{us:List Value} {xs:List (List Amt)},qCU w us xs->∀j (h:j<us.length) (h':j<xs.length),qAl w us[j] xs[j]
 |_::_,_::_,h,0,_,_=>h.1
 |_::_,_::_,h,j+1,h1,h2=>qCU.at_ h.2 j (by simpa using h1) (by simpa using h2)
 |[],[],_,j,h,_=>by simp at h
 |[],_::_,h,_,_,_=>h.elim
 |_::_,[],h,_,_,_=>h.elim
theorem qJi{w:World}{base:Nat}{e:TypeId}{v:Value}{us:List Value}{xs:List (List Amt)}(h:w.ownsRow base e 1 v us.length us)(hv:qCU w us xs):qCT w v xs:=by
 have hl:=hv.len;refine qAb.of_own (css:=us.map (fun u=>[u])) (base:=base) (e:=e) ?_ (by simp) (by simp[hl]) ?_
 ·have:=qBf (fun u:Value=>u) us
  rw[this,List.length_map,List.map_id'];exact h
 ·intro j h1 h2
  rw[List.getElem_map];exact⟨_,rfl,hv.at_ j (by simpa using h2) h1⟩
theorem qNh(vi vr:Value)(c:Cat)(w:World)(hc:qAS w vi vr c)(hl2:c.rules.length<=1000):
 Calls Tryz.prog 125 #[qBo vi vr] w fun e w'=>(∃v,e=.returned v/\qCT w' v (qAP c.rules))/\Below w.heap.size w w':=by
 obtain⟨ai,ci,rfl,hi1,hi2⟩:=hc.items.form;obtain⟨ar,cr,rfl,hr1,hr2⟩:=hc.rules.form;have HC:=hZ hc;clear hc;unfold qBo;obtain⟨w1,hw1⟩:=eX (w.alloc (.cells #[.slice ai c.items.length ci,.slice ar c.rules.length cr,.slice none 0 0,.slice none 0 0] 28));have HB:Hid (Below w.heap.size w w1):=hZ (by rw[<-hw1];exact aR);have HX:Hid (qBw w1 w.heap.size (.slice ai c.items.length ci) (.slice ar c.rules.length cr)):=hZ (by rw[<-hw1];exact qBw.new _ _ _);have m0:=HX.o.c0;have m1:=HX.o.c1;have m2:=HX.o.c2;have m3:=HX.o.c3;have mlt:=HX.o.lt
 go_enter Tryz.func125,Tryz.ntmps125
 go_wp2_with fail
 clear hw1
 go_loopw [3,4] (fun o i wr=>∃(j:Nat) (us:List Value) (ga:Option Addr) (gc:Nat),j<=c.rules.length/\i=.int .i64 j/\o=.slice ga (j*3) gc/\gc<=9223372036854775807/\j*3<=gc/\us.length=j*3/\(∀u∈us,u.oneCell'=true)/\Hid (qCU w us (qAP (c.rules.take j)))/\Hid (wr.ownsRow w1.heap.size 52 1 (.slice ga (j*3) gc) (j*3) us)/\Hid (Below w1.heap.size w1 wr)) (fun _ i _=>c.rules.length-(intOf i).toNat)
 case atStart=>exact⟨0,[],none,0,by omega,rfl,rfl,by omega,by omega,rfl,by simp,hZ trivial,hZ (World.ownsRow_nil _ _ _ _),hZ (Below.refl _ _)⟩
 case round=>
  obtain⟨j,us,ga,gc,hj,rfl,rfl,hgc,hjg,hul,huo,HU,HO,HBl⟩:=hrel;have HBw:=HB;have HX1:=HX;have hBk:=HBl.o;replace HB:=hZ (HB.o.trans (hBk.mono HB.o.size));replace HX:=hZ (HX.o.below hBk);clear hBk
  try clear m0
  try clear m1
  try clear m2
  try clear m3
  try clear mlt
  have m0:=HX.o.c0;have m1:=HX.o.c1;have m2:=HX.o.c2;have m3:=HX.o.c3;have mlt:=HX.o.lt;by_cases hlt:j<c.rules.length
  ·obtain⟨b,cap,p,hv,hb,hr,hcs0⟩:=qA1.at_ HC.o.rules j hlt
   have hcs:=hcs0.below HB.o hb;injection hv with e1 e2 e3;subst e1;clear e2 e3;have x6:=hcs.c6;have x7:=hcs.c7;have x8:=hcs.c8;have HTK:Hid (qAP (c.rules.take (j+1))=qAP (c.rules.take j)++[c.rules[j].take,c.rules[j].give,c.rules[j].back]):=hZ (by rw[List.take_succ_eq_append_getElem hlt,qGB]);have HRU:=hZ hr;have hbr:b<wr.heap.size:=Nat.lt_of_lt_of_le hb HB.o.size;have HCS:=hZ hcs0;clear hr hcs hcs0;generalize c.rules[j]=x at *;obtain⟨xn,xs,xt,xo,xk,xg,xb⟩:=x;simp only[]at x6 x7 x8 HTK HRU;have i1:(j:Int)<(c.rules.length:Int):=by omega
   go_wp2_with fail
   refine qBQ 99 (fun W=>W.cell? ⟨w.heap.size,1,none⟩=some (.slice (some ⟨b,0,none⟩) c.rules.length cr)/\W.cell? ⟨b,j*9+6,none⟩=some (.slice p.at_ xk.length p.ct)/\W.cell? ⟨b,j*9+7,none⟩=some (.slice p.ag xg.length p.cg)/\W.cell? ⟨b,j*9+8,none⟩=some (.slice p.ab xb.length p.cb)) (by kernel_rfl) (⟨m1,x6,x7,x8⟩) (fun hHeld=> ?_);refine kU 0 14 ?_;refine kU 1 15 ?_;refine kU 2 16 ?_;refine kU 3 17 ?_;refine kU 4 18 ?_;refine kU 5 19 ?_;refine kU 6 20 ?_;refine kU 7 21 ?_;refine kU 8 22 ?_;refine kU 9 23 ?_;refine kU 10 24 ?_;refine kU 11 25 ?_;refine kU 12 26 ?_;refine kU 13 27 ?_;refine kU 14 28 ?_;refine kU 15 29 ?_;refine kU 16 30 ?_;refine kU 17 31 ?_;refine kU 18 32 ?_;refine qA2 19 (by kernel_rfl) rfl (fun K hK=> ?_);go_simp;obtain⟨w9,hw9⟩:=eX ((wr.alloc (.cells #[.slice p.at_ xk.length p.ct,.slice p.ag xg.length p.cg,.slice p.ab xb.length p.cb] 52)).drew);have HB9:Hid (Below wr.heap.size wr w9):=hZ (by rw[<-hw9];exact aR.drew);have HK9:Hid (qAf w9 wr.heap.size 52 [.slice p.at_ xk.length p.ct,.slice p.ag xg.length p.cg,.slice p.ab xb.length p.cb]):=hZ (by rw[<-hw9];exact(qAf.new _ _ _).drew);have HO9:Hid (w9.ownsRow w1.heap.size 52 1 (.slice ga (j*3) gc) (j*3) us):=hZ ((qAc.of_below (S:=fun _=>False) HB9.o).own HO.o (fun _ _ h=>h));rw[hw9];clear hHeld hw9;have n1:=(HB9.o.cell (p:=⟨w.heap.size,1,none⟩) mlt).trans m1;have n6:=(HB9.o.cell (p:=⟨b,j*9+6,none⟩) hbr).trans x6;have n7:=(HB9.o.cell (p:=⟨b,j*9+7,none⟩) hbr).trans x7;have n8:=(HB9.o.cell (p:=⟨b,j*9+8,none⟩) hbr).trans x8
   go_wp2_with fail
   refine hK.out _ _ (⟨n1,n6,n7,n8⟩) (fun hHeld=> ?_);clear hK K
   try simp only[Act.put,List.setIfInBounds_toArray,List.set_cons_zero,List.set_cons_succ]
   have HBl9:=hZ (HBl.o.trans (HB9.o.mono HBl.o.size));have HN9:Hid (∀q u,([.slice p.at_ xk.length p.ct,.slice p.ag xg.length p.cg,.slice p.ab xb.length p.cb]:List Value)[q]? =some u->w9.cell? ((⟨wr.heap.size,0,none⟩:Addr).add q)=some u):=hZ (fun q u hu=>by
    have hadd:(⟨wr.heap.size,0,none⟩:Addr).add q=⟨wr.heap.size,q,none⟩:=by unfold Addr.add;split<;>simp_all
    rw[hadd,HK9.o.cell];exact hu)
   refine qA2 20 (by kernel_rfl) rfl (fun K hK=> ?_);refine qCc (W0:=w1) (B:=w1.heap.size) qPi rfl 34 rfl _ _ rfl (.slice ga (j*3) gc) (j*3) us rfl ⟨wr.heap.size,0,none⟩ 3 3 [.slice p.at_ xk.length p.ct,.slice p.ag xg.length p.cg,.slice p.ab xb.length p.cb] rfl (by simp) HN9.o (by simp[Value.oneCell']) (by omega) HO9.o HBl9.o HBl9.o.size (by omega) (by omega) ?_;intro g6 cap6 w10 Hown6 HB6 HO6 hcap6 hcap7;clear hHeld HO6 n1 n6 n7 n8;simp only[List.setIfInBounds_toArray,List.set_cons_zero,List.set_cons_succ];have HB10:=hZ (HBw.o.trans (HB6.o.mono HBw.o.size));have hcsx:=HCS.o.below HB10.o hb;have n1:=(HX1.o.below HB6.o).c1;have n6:=hcsx.c6;have n7:=hcsx.c7;have n8:=hcsx.c8;simp only[]at n6 n7 n8;clear hcsx;have HU10:Hid (qCU w (us++[.slice p.at_ xk.length p.ct,.slice p.ag xg.length p.cg,.slice p.ab xb.length p.cb]) (qAP (c.rules.take (j+1)))):=hZ (by rw[HTK.o];exact HU.o.append ⟨HRU.o.take,HRU.o.give,HRU.o.back,trivial⟩)
   go_wp2_with fail
   refine hK.out _ _ (⟨n1,n6,n7,n8⟩) (fun hHeld=> ?_);clear hK K
   try simp only[Act.put,List.setIfInBounds_toArray,List.set_cons_zero,List.set_cons_succ]
   refine kU 21 3 ?_;refine qGK (by kernel_rfl) ?_ _;clear hHeld;clear n1 n6 n7 n8;have e3:(j+1)*3=j*3+3:=by omega
   go_wp2_with fail
   go_roundw
   case rel=>exact⟨j+1,us++[.slice p.at_ xk.length p.ct,.slice p.ag xg.length p.cg,.slice p.ab xb.length p.cb],some ⟨g6,0,none⟩,cap6,by omega,by go_num,by rw[e3],hcap6,by omega,by simp[hul,e3],fun u hu=>by
    rcases List.mem_append.1 hu with h|h
    ·exact huo u h
    ·simp at h;rcases h with rfl|rfl|rfl<;>rfl,HU10,hZ (by rw[e3];exact Hown6.o),HB6⟩
   case measure=>simp[intOf];omega
  ·obtain rfl:j=c.rules.length:=by omega
   have HL:Hid (qCT wr (.slice ga (c.rules.length*3) gc) (qAP c.rules)):=hZ (by
    have h9:=HU.o;rw[List.take_of_length_le (Nat.le_refl _)]at h9;refine qJi (us:=us) (base:=w1.heap.size) (e:=52) ?_ (h9.below HB.o);rw[hul];exact HO.o)
   clear HO HU HBl huo
   go_wp2_with fail
   go_loopw [3,5] (fun o i wr2=>o=.slice ga (c.rules.length*3) gc/\i=.int .i64 0/\Hid (wr2=wr)) (fun _ _ _=>0)
   case atStart=>exact⟨rfl,rfl,hZ rfl⟩
   case round=>
    obtain⟨rfl,rfl,HW⟩:=hrel;obtain rfl:=HW.o;clear HW
    go_wp2_with fail
    go_ret;exact⟨⟨_,rfl,HL.o⟩,HB.o⟩
theorem qHz{w w':World}{base:Nat}{e:TypeId}{size:Nat}{v:Value}{n:Nat}{xs:List Value}(h:w.ownsRow base e size v n xs)(hb:Below w.heap.size w w'):w'.ownsRow base e size v n xs:=(qAc.of_below (S:=fun _=>False) hb).own h (fun _ _ h=>h)
theorem qEj{n M K:Nat}{l:List Amt}(h:qAM n M K l)(hK:K<=1000):l.length<=1000:=Nat.le_trans h.len hK
theorem qJE(vi vr:Value)(c:Cat)(w:World)(hc:qAS w vi vr c)(hg:qHf c):
 Calls Tryz.prog 54 #[qBo vi vr] w fun e w'=>(∃v,e=.returned v/\qKm w' c.items.length v (qC4 c))/\Below w.heap.size w w':=by
 have HGd:=hZ hg;have hl2:=hg.rules;have hn6:=hg.items;obtain⟨ai,ci,rfl,hi1,hi2⟩:=hc.items.form;obtain⟨ar,cr,rfl,hr1,hr2⟩:=hc.rules.form;have HC:=hZ hc;clear hc;unfold qBo;obtain⟨w1,hw1⟩:=eX (w.alloc (.cells #[.slice ai c.items.length ci,.slice ar c.rules.length cr,.slice none 0 0,.slice none 0 0] 28));have HB:Hid (Below w.heap.size w w1):=hZ (by rw[<-hw1];exact aR);have HX:Hid (qBw w1 w.heap.size (.slice ai c.items.length ci) (.slice ar c.rules.length cr)):=hZ (by rw[<-hw1];exact qBw.new _ _ _);have m0:=HX.o.c0;have m1:=HX.o.c1;have m2:=HX.o.c2;have m3:=HX.o.c3;have mlt:=HX.o.lt
 go_enter Tryz.func54,Tryz.ntmps54
 go_wp2_with fail
 clear hw1;have HX1:=HX
 go_loopw [3,4] (fun o i wr=>∃(j m:Nat) (ga:Option Addr) (gc:Nat) (l:List (Nat×Nat)),j<=c.rules.length/\i=.int .i64 j/\o=.slice ga m gc/\m<=2*j/\Hid (l.length=m)/\Hid (wr.ownsRow w1.heap.size 86 2 (.slice ga m gc) m (l.flatMap (qOh c.items.length)))/\Hid (qD1 wr c.items.length l (qC3 0 (c.rules.take j)))/\Hid (Below w1.heap.size w1 wr)) (fun _ i _=>c.rules.length-(intOf i).toNat)
 case atStart=>exact⟨0,0,none,0,[],by omega,rfl,rfl,by omega,hZ rfl,hZ (World.ownsRow_nil _ _ _ _),hZ (qD1.nil _ _),hZ (Below.refl _ _)⟩
 case round=>
  obtain⟨j,m,ga,gc,l,hj,rfl,rfl,hmj,HLl,HO,HI,HBl⟩:=hrel;have HBw:=HB;have hBk:=HBl.o;replace HB:=hZ (HB.o.trans (hBk.mono HB.o.size));replace HX:=hZ (HX.o.below hBk);clear hBk
  try clear m0
  try clear m1
  try clear m2
  try clear m3
  try clear mlt
  have m0:=HX.o.c0;have m1:=HX.o.c1;have m2:=HX.o.c2;have m3:=HX.o.c3;have mlt:=HX.o.lt;by_cases hlt:j<c.rules.length
  ·obtain⟨b,cap,p,hv,hb,hr,hcs0⟩:=qA1.at_ HC.o.rules j hlt
   have hcs:=hcs0.below HB.o hb;injection hv with e1 e2 e3;subst e1;clear e2 e3;have x0:=hcs.c0;have x1:=hcs.c1;have x2:=hcs.c2;have x3:=hcs.c3;have x4:=hcs.c4;have x5:=hcs.c5;have x6:=hcs.c6;have x7:=hcs.c7;have x8:=hcs.c8;have HTK:=hZ (qMI c j hlt);have HRU:=hZ hr;have HGR:=hZ (HGd.o.each _ (List.getElem_mem hlt));clear hr hcs hcs0;generalize c.rules[j]=x at *;obtain⟨xn,xs,xt,xo,xk,xg,xb⟩:=x;simp only[]at x0 x1 x2 x3 x4 x5 x6 x7 x8 HTK HRU HGR;have i0:(0:Int)<=(j:Int):=by omega
   have i1:(j:Int)<(c.rules.length:Int):=by omega
   obtain⟨wa,hwa⟩:=eX (wr.alloc (.cells #[.string ⟨xn.toArray⟩,.bool xs,.int .i64 0,.int .i64 xt,.int .i64 1,.int .i64 xo,.slice p.at_ xk.length p.ct,.slice p.ag xg.length p.cg,.slice p.ab xb.length p.cb] 54));have hB:Below wr.heap.size wr wa:=by rw[<-hwa];exact aR
   obtain⟨rb,hrb⟩:=eX wr.heap.size;have KB:Hid (qAf wa rb 54 [.string ⟨xn.toArray⟩,.bool xs,.int .i64 0,.int .i64 xt,.int .i64 1,.int .i64 xo,.slice p.at_ xk.length p.ct,.slice p.ag xg.length p.cg,.slice p.ab xb.length p.cb]):=hZ (by rw[<-hwa,<-hrb];exact qAf.new _ _ _);have HOa:=hZ (qHz HO.o hB);have HIa:=hZ (HI.o.below hB);have HBa:=hZ (HBl.o.trans (hB.mono HBl.o.size));clear hB HO HI;have q1:=KB.o.cell 1;have q6:=KB.o.cell 6;have q7:=KB.o.cell 7;simp only[List.getElem?_cons_succ,List.getElem?_cons_zero]at q1 q6 q7;have HXa:=hZ (HX1.o.below HBa.o);have y0:=HXa.o.c0;cases xs
   ·go_wp2_with fail
    clear q1 q6 q7 y0 hwa x0 x1 x2 x3 x4 x5 x6 x7 x8
    try clear m0 m1 m2 m3 mlt
    have HCt:=hZ (HRU.o.take.below (HBw.o.trans (HBa.o.mono HBw.o.size)));have HCg:=hZ (HRU.o.give.below (HBw.o.trans (HBa.o.mono HBw.o.size)));refine(qG7 wa _ _ xk xg c.items.length HCt.o HCg.o HGR.o.take HGR.o.give (by omega) (qEj HGR.o.take (by omega)) (qEj HGR.o.give (by omega))).mono ?_;rintro e we1 ⟨g1,rfl,hk,hge,hB⟩;clear HCt HCg;have HE:=hZ hk;replace KB:=hZ (KB.o.below hB KB.o.lt);replace HOa:=hZ (qHz HOa.o hB);replace HIa:=hZ (HIa.o.below hB);replace HBa:=bT HBa hB;clear hB hk hge
    go_wp2_with (at_builtin;refine qAn (W0:=w1) qNK rfl _ _ rfl [.int .i64 j,.slice (some ⟨g1,0,none⟩) c.items.length c.items.length] 86 (.slice ga (m) gc) (m) ((l).flatMap (qOh c.items.length)) rfl rfl rfl (by simp[Value.oneCell']) HOa.o HBa.o HBa.o.size (by omega) (by omega) ?_)
    intro g61 cap61 w61 ho6 hb6 hon6 hc61 hgg;have HOn:Hid (w61.ownsRow w1.heap.size 86 2 (.slice (some ⟨g61,0,none⟩) (m+1) cap61) (m+1) ((l++[(j,g1)]).flatMap (qOh c.items.length))):=hZ (by have h9:=ho6.o;rw[List.flatMap_append];simpa[qOh,zv]using h9);replace KB:=hZ (KB.o.onlyT HOa.o (by decide) hon6.o);have HIn:=hZ ((HIa.o.snoc (j:=j) HE.o).only HOa.o hon6.o);replace HBa:=hb6;replace HOa:=HOn;replace HIa:=HIn;clear HOn HIn ho6 hb6 hon6 hgg HE;have q4:=KB.o.cell 4;have q5:=KB.o.cell 5;have q6:=KB.o.cell 6;have q8:=KB.o.cell 8;simp only[List.getElem?_cons_succ,List.getElem?_cons_zero]at q4 q5 q6 q8;have HX2:=hZ (HX1.o.below HBa.o);have y0:=HX2.o.c0;by_cases ho1:1<xo
    ·have s1:(1:Int)<(xo:Int):=by omega
     go_wp2_with fail
     clear q4 q5 q6 q8 y0;have HCt:=hZ (HRU.o.take.below (HBw.o.trans (HBa.o.mono HBw.o.size)));have HCg:=hZ (HRU.o.back.below (HBw.o.trans (HBa.o.mono HBw.o.size)));refine(qG7 w61 _ _ xk xb c.items.length HCt.o HCg.o HGR.o.take HGR.o.back (by omega) (qEj HGR.o.take (by omega)) (qEj HGR.o.back (by omega))).mono ?_;rintro e we2 ⟨g2,rfl,hk,hge,hB⟩;clear HCt HCg;have HE:=hZ hk;replace KB:=hZ (KB.o.below hB KB.o.lt);replace HOa:=hZ (qHz HOa.o hB);replace HIa:=hZ (HIa.o.below hB);replace HBa:=bT HBa hB;clear hB hk hge
     go_wp2_with (at_builtin;refine qAn (W0:=w1) qNK rfl _ _ rfl [.int .i64 j,.slice (some ⟨g2,0,none⟩) c.items.length c.items.length] 86 (.slice (some ⟨g61,0,none⟩) (m+1) cap61) (m+1) ((l++[(j,g1)]).flatMap (qOh c.items.length)) rfl rfl rfl (by simp[Value.oneCell']) HOa.o HBa.o HBa.o.size (by omega) (by omega) ?_)
     intro g62 cap62 w62 ho6 hb6 hon6 hc62 hgg;have HOn:Hid (w62.ownsRow w1.heap.size 86 2 (.slice (some ⟨g62,0,none⟩) (m+1+1) cap62) (m+1+1) ((l++[(j,g1)]++[(j,g2)]).flatMap (qOh c.items.length))):=hZ (by have h9:=ho6.o;rw[List.flatMap_append];simpa[qOh,zv]using h9);replace KB:=hZ (KB.o.onlyT HOa.o (by decide) hon6.o);have HIn:=hZ ((HIa.o.snoc (j:=j) HE.o).only HOa.o hon6.o);replace HBa:=hb6;replace HOa:=HOn;replace HIa:=HIn;clear HOn HIn ho6 hb6 hon6 hgg HE
     go_wp2_with fail
     go_roundw
     case rel=>exact⟨j+1,m+1+1,some ⟨g62,0,none⟩,cap62,l++[(j,g1)]++[(j,g2)],by omega,by go_num,rfl,by omega,hZ (by simp[HLl.o]),HOa,hZ (by rw[HTK.o,qOy rfl ho1];first|exact HIa.o|(simpa using HIa.o)),HBa⟩
     case measure=>simp[intOf];omega
    ·have s1:¬(1:Int)<(xo:Int):=by omega
     go_wp2_with fail
     go_roundw
     case rel=>exact⟨j+1,m+1,some ⟨g61,0,none⟩,cap61,l++[(j,g1)],by omega,by go_num,rfl,by omega,hZ (by simp[HLl.o]),HOa,hZ (by rw[HTK.o,qOz rfl ho1];first|exact HIa.o|(simpa using HIa.o)),HBa⟩
     case measure=>simp[intOf];omega
   ·go_wp2_with fail
    go_roundw
    case rel=>exact⟨j+1,m,ga,gc,l,by omega,by go_num,rfl,by omega,HLl,HOa,hZ (by rw[HTK.o,qLy rfl,List.append_nil];exact HIa.o),HBa⟩
    case measure=>simp[intOf];omega
  ·obtain rfl:j=c.rules.length:=by omega
   go_wp2_with fail
   go_ret;exact⟨⟨_,rfl,(by have h9:=HI.o;rw[List.take_length]at h9;exact h9.at_ HO.o HLl.o.symm)⟩,HB.o⟩
end Go.Proofs.YtkjhlkngihponaaGreatDoor
