/- Rows of wide integers under calls that turn some blocks; lists of lines in memory. -/
import Derived.Test.YtkjhlkngihponaaGreatDoorQKWShiftL
import Derived.Deep.RegionHeld3
import Derived.Lib.ItoaNum
import Derived.Deep.LoopGhost
import Derived.WalkMore
import Derived.Test.YtkjhlkngihponaaGreatDoorQKStr
import Derived.Test.YtkjhlkngihponaaGreatDoorQKWDivide
set_option linter.unusedVariables false
set_option linter.unusedSimpArgs false
set_option maxHeartbeats 4000000
set_option maxRecDepth 100000
namespace Go.Proofs.YtkjhlkngihponaaGreatDoor
open Go.RowKit
structure qOe(A:List Nat)(s N k:Nat)(L:List Nat):Prop where
 len:L.length=N
 low:Low W2 L
 lt:0<k->∀h:k-1<L.length,L[k-1]<2^(32-s)
 zero:∀j (h:j<L.length),k<=j->L[j]=0
 eq:val W2 L=val W2 (A.take k)/2^s
theorem qOe.start(A:List Nat)(s N:Nat):qOe A s N 0 (List.replicate N 0):=
 ⟨by simp,fun x hx=>by rw[(List.mem_replicate.1 hx).2];decide,fun h=>by omega,fun j h _=>by simp,by rw[qCx W2 _ (fun x hx=>(List.mem_replicate.1 hx).2)];simp[val]⟩
theorem qFF(y s:Nat)(hs:s<32)(hy:y<W2):y*W2/2^s=y*2^(32-s)/\y*2^(32-s)/W2=y/2^s/\y/2^s<2^(32-s)/\y*2^(32-s)%W2=2^(32-s)*(y%2^s)/\y%2^s<2^s:=by
 have hW:W2=2^s*2^(32-s):=by rw[<-Nat.pow_add,show s+(32-s)=32 by omega]
 have hp:0<2^s:=Nat.pow_pos (by omega);have hp2:0<2^(32-s):=Nat.pow_pos (by omega);refine⟨?_,?_,?_,?_,Nat.mod_lt _ hp⟩
 ·rw[hW,Nat.mul_left_comm,Nat.mul_div_cancel_left _ hp]
 ·rw[hW,Nat.mul_div_mul_right _ _ hp2]
 ·refine Nat.div_lt_of_lt_mul ?_
  rw[<-hW];exact hy
 ·rw[hW,Nat.mul_comm y,Nat.mul_comm (2^s),Nat.mul_mod_mul_left]
theorem qRs(c m k:Nat)(hc:c<2^k):c|||2^k*m=c+2^k*m:=by
 rw[Nat.or_comm,<-Nat.two_pow_add_eq_or_of_lt hc,Nat.add_comm]
theorem qOe.first{A:List Nat}{s N:Nat}{L:List Nat}(h:qOe A s N 0 L)(hl:0<L.length)(ha:0<A.length)(hs:s<32)(hA:Low W2 A):qOe A s N 1 (L.set 0 (A[0]/2^s)):=by
 obtain⟨_,_,p3,_,_⟩:=qFF A[0] s hs (hA _ (List.getElem_mem ha));have hw:A[0]/2^s<W2:=Nat.lt_of_le_of_lt (Nat.div_le_self _ _) (hA _ (List.getElem_mem ha));refine⟨by rw[List.length_set];exact h.len,qBe h.low _ _ hw,fun _ hh=>by simp only[Nat.sub_self,List.getElem_set_self];exact p3,fun j hj hkj=> ?_,?_⟩
 ·rw[List.getElem_set_ne (by omega)]
  exact h.zero j (by rw[List.length_set]at hj;exact hj) (by omega)
 ·have e1:=qCu W2 L 0 (A[0]/2^s) hl
  rw[h.zero 0 hl (by omega)]at e1;have h1:=h.eq;have h2:=qAj W2 A 0 ha;simp only[List.take_zero,val,Nat.zero_div,Nat.zero_add,Nat.pow_zero,Nat.mul_one]at *;rw[h2];omega
theorem qOe.next{A:List Nat}{s N k:Nat}{L:List Nat}(h:qOe A s N k L)(h0:0<k)(hk:k<L.length)(hk1:k-1<L.length)(ha:k<A.length)(hs:s<32)(hA:Low W2 A):
 qOe A s N (k+1) ((L.set k (A[k]/2^s)).set (k-1) (L[k-1]+2^(32-s)*(A[k]%2^s))):=by
 obtain⟨p1,p2,p3,p4,p5⟩:=qFF A[k] s hs (hA _ (List.getElem_mem ha));have hW:W2=2^s*2^(32-s):=by rw[<-Nat.pow_add,show s+(32-s)=32 by omega]
 have hp:0<2^s:=Nat.pow_pos (by omega);have hw:A[k]/2^s<W2:=Nat.lt_of_le_of_lt (Nat.div_le_self _ _) (hA _ (List.getElem_mem ha));have hlt:=h.lt h0 hk1;have hsum:L[k-1]+2^(32-s)*(A[k]%2^s)<W2:=by
  have h1:2^(32-s)*(A[k]%2^s+1)<=2^(32-s)*2^s:=Nat.mul_le_mul_left _ p5;rw[Nat.mul_comm (2^(32-s)) (2^s),<-hW,Nat.mul_add,Nat.mul_one]at h1;omega
 refine⟨by rw[List.length_set,List.length_set];exact h.len,qBe (qBe h.low _ _ hw) _ _ hsum,fun _ hh=> ?_,fun j hj hkj=> ?_,?_⟩
 ·simp only[Nat.add_sub_cancel]
  rw[List.getElem_set_ne (by omega),List.getElem_set_self];exact p3
 ·rw[List.getElem_set_ne (by omega),List.getElem_set_ne (by omega)]
  exact h.zero j (by rw[List.length_set,List.length_set]at hj;exact hj) (by omega)
 ·have e1:=qCu W2 L k (A[k]/2^s) hk
  rw[h.zero k hk (Nat.le_refl _)]at e1;have hk3:k-1<(L.set k (A[k]/2^s)).length:=by rw[List.length_set];exact hk1
  have e2:=qCu W2 (L.set k (A[k]/2^s)) (k-1) (L[k-1]+2^(32-s)*(A[k]%2^s)) hk3;have hz:(L.set k (A[k]/2^s))[k-1]=L[k-1]:=List.getElem_set_ne (by omega) _;rw[hz]at e2;have hB:W2^k=2^s*(2^(32-s)*W2^(k-1)):=by rw[qFl k h0,<-Nat.mul_assoc,<-hW]
  have hd:(val W2 (A.take k)+A[k]*W2^k)/2^s=val W2 (A.take k)/2^s+A[k]*(2^(32-s)*W2^(k-1)):=by
   rw[hB,Nat.mul_left_comm,Nat.add_mul_div_left _ _ hp]
  rw[qAj W2 A k ha,hd,<-h.eq];have hy:=Nat.div_add_mod A[k] (2^s);rw[hB]at e1;generalize val W2 ((L.set k (A[k]/2^s)).set (k-1) (L[k-1]+2^(32-s)*(A[k]%2^s)))=v2 at *;generalize val W2 (L.set k (A[k]/2^s))=v1 at *;generalize A[k]/2^s=hi at *;generalize A[k]%2^s=r at *;generalize L[k-1]=c at *;generalize A[k]=y at *;generalize W2^(k-1)=X at *;generalize 2^(32-s)=T at *;generalize 2^s=S at *;generalize val W2 L=v at *;clear p1 p2 p3 p4 p5 h hA hz hd hB
  grind
theorem qJA(va:Value)(A:List Nat)(s:Nat)(w:World)(ha:qAd .u32 w va A)(hA:Low W2 A)(hs:s<32)(hlen:A.length<=1048576):
 Calls Tryz.prog 161 #[va,.int .i64 (s:Int)] w fun e w'=>∃v,e=.returned v/\qAK w' v (val W2 A/2^s)/\Below w.heap.size w w':=by
 obtain⟨i0,hi,hz0,hz1,hz2⟩:=info_parts qE6;have Hi:=hZ hi;have Hz0:=hZ hz0;have Hz1:=hZ hz1;have Hz2:=hZ hz2;clear hi hz0 hz1 hz2;obtain⟨ya,ycap,hvy,y1,y2,hyc⟩:=ha;subst hvy;have Hyc:=hZ hyc;have HlA:=hZ hA;clear hyc hA;obtain⟨N,hN⟩:=eX A.length;have HN:=hZ hN;rw[hN]at hlen y1 ⊢;clear hN
 go_enter Tryz.func161,Tryz.ntmps161
 go_wp2_with (at_make;refine qAD _ rfl _ _ 71 rfl 151 i0 .u32 Tryz.underlying71 Hi.o Hz0.o Hz1.o _ _ _ _ N rfl rfl rfl rfl (by rw[Hz2.o];omega) (by omega) ?_)
 intro w1 hblk hB1 hz1;obtain⟨g,hg⟩:=eX w.heap.size;have Hg:=hZ hg;rw[hg]at hblk hB1 hz1 ⊢;have Hblk1:=hZ hblk;have HB1:=hZ hB1;clear hg hblk hB1
 go_wp2_with fail
 go_loopw [14] (fun i wr=>∃(k:Nat) (L:List Nat),k<=N/\i=.int .i64 (k:Int)/\Hid (qOe A s N k L)/\Hid (Blk wr g 151 .u32 L)/\Hid (Below g w wr)) (fun i _=>N-(intOf i).toNat)
 case atStart=>exact⟨0,_,by omega,rfl,hZ (qOe.start A s N),Hblk1,HB1⟩
 case round=>
  obtain⟨k,L,hk,rfl,hI,hbl,hB⟩:=hrel;have hLl:=hI.o.len;by_cases hlt:k<N
  ·have hy:k<A.length:=by rw[HN.o];exact hlt
   obtain⟨b,off,rfl,hb,hcc⟩:=Hyc.o (by omega);rw[Hg.o]at hb;have cy:=(hB.o.cell (p:=⟨b,off+k,none⟩) hb).trans (hcc k hy);have hyl:A[k]<4294967296:=HlA.o _ (List.getElem_mem hy);have cg:=hbl.o.cell k (by omega);have fg:=hbl.o.frozen k;have kl:k<L.length:=by omega
   have hz0:=hI.o.zero k kl (Nat.le_refl _);rw[hz0]at cg;obtain⟨p1,p2,p3,p4,p5⟩:=qFF A[k] s hs hyl;have hpc:((2^s:Nat):Int)=(2:Int)^s:=by rw[Int.natCast_pow];rfl
   have hsh:(A[k]:Int)*4294967296/2^s=((A[k]*2^(32-s):Nat):Int):=by
    rw[<-p1,<-hpc]
    show(A[k]:Int)*4294967296/_=((A[k]*4294967296/2^s:Nat):Int)
    rw[Int.natCast_ediv,Int.natCast_mul];rfl
   have hT32:2^(32-s)<=4294967296:=by
    have:2^(32-s)<=2^32:=Nat.pow_le_pow_right (by omega) (by omega);exact this
   have htl:A[k]*2^(32-s)<=4294967295*4294967296:=Nat.mul_le_mul (by omega) hT32;have Hn:=hZ (fun(h0:0<k) (k1:k-1<L.length)=>hI.o.next h0 kl k1 hy hs HlA.o);have hilt:A[k]/2^s<4294967296:=Nat.lt_of_lt_of_le p3 hT32;have hor:=u32_or_nat 0 (A[k]/2^s) (by omega) hilt;rw[Nat.zero_or]at hor;have hlol:2^(32-s)*(A[k]%2^s)<4294967296:=by
    rw[<-p4];exact Nat.mod_lt _ (by decide)
   have hdv:A[k]*2^(32-s)/4294967296=A[k]/2^s:=p2;have hmd:A[k]*2^(32-s)%4294967296=2^(32-s)*(A[k]%2^s):=p4;have Hor2:=hZ (fun(h0:0<k) (k1:k-1<L.length)=>(u32_or_nat L[k-1] (2^(32-s)*(A[k]%2^s)) (hI.o.low _ (List.getElem_mem k1)) hlol).trans (congrArg Int.ofNat (qRs L[k-1] (A[k]%2^s) (32-s) (hI.o.lt h0 k1))));clear hcc;by_cases h0:k=0
   ·have HF:Hid (qOe A s N (k+1) (L.set k (A[k]/2^s))):=hZ (by subst h0;exact hI.o.first kl hy hs HlA.o)
    have hk0:¬0<k:=by omega
    have cg':wr.cell? ⟨g,k,none⟩=some (.int .u32 0):=cg;have hor':∀x:Nat,x<4294967296->bits BinOp.or IntKind.u32 0 (x:Int)=(x:Int):=fun x hx=>by have h9:=u32_or_nat 0 x (by omega) hx;rw[Nat.zero_or]at h9;exact h9
    generalize A[k]=y at *;obtain⟨t,ht⟩:=eX (y*2^(32-s));obtain⟨hi,hhi⟩:=eX (y/2^s);rw[ht]at hsh hdv htl;rw[hhi]at hdv hilt HF;have hhiI:(t:Int)/4294967296=(hi:Int):=by omega
    have hor2:=hor' hi hilt;clear p1 p2 p3 p4 p5 ht hhi hdv hmd hlol Hn Hor2 hpc hz0 hor cg hor' h0
    go_wp2_with fail
    go_roundw
    case rel=>exact⟨k+1,_,by omega,by go_num,HF,hZ (hbl.o.set k _),hZ (hB.o.setCell (p:=⟨g,k,none⟩) (Nat.le_refl _) _)⟩
    case measure=>simp[intOf];omega
   ·have hkp:0<k:=by omega
    have k1:k-1<L.length:=by omega
    have HF:=hZ (Hn.o hkp k1);have hor3:=Hor2.o hkp k1;have cg':wr.cell? ⟨g,k,none⟩=some (.int .u32 0):=cg;have cp:=hbl.o.cell (k-1) k1;have fp:=hbl.o.frozen (k-1);have i1:(0:Int)<=(k:Int)-1:=by omega
    have i2:(k:Int)-1<(N:Int):=by omega
    have i3:((k:Int)-1).toNat=k-1:=by omega
    have hor':∀x:Nat,x<4294967296->bits BinOp.or IntKind.u32 0 (x:Int)=(x:Int):=fun x hx=>by have h9:=u32_or_nat 0 x (by omega) hx;rw[Nat.zero_or]at h9;exact h9
    generalize A[k]=y at *;generalize L[k-1]=c at *;obtain⟨t,ht⟩:=eX (y*2^(32-s));obtain⟨hi,hhi⟩:=eX (y/2^s);obtain⟨lo,hlo⟩:=eX (2^(32-s)*(y%2^s));rw[ht]at hsh hdv htl hmd;rw[hhi]at hdv hilt HF;rw[hlo]at hmd hlol hor3 HF;have hor4:bits BinOp.or IntKind.u32 (c:Int) (lo:Int)=((c+lo:Nat):Int):=hor3;have hhiI:(t:Int)/4294967296=(hi:Int):=by omega
    have hloI:(t:Int)%4294967296=(lo:Int):=by omega
    have hor2:=hor' hi hilt;clear p1 p2 p3 p4 p5 ht hhi hlo hdv hmd Hn Hor2 hpc hz0 hor cg hor' h0 hor3
    go_wp2_with fail
    go_roundw
    case rel=>exact⟨k+1,_,by omega,by go_num,HF,hZ ((hbl.o.set k _).set (k-1) _),hZ ((hB.o.setCell (p:=⟨g,k,none⟩) (Nat.le_refl _) _).setCell (p:=⟨g,k-1,none⟩) (Nat.le_refl _) _)⟩
    case measure=>simp[intOf];omega
  ·obtain rfl:k=N:=by omega
   have hv:val W2 L=val W2 A/2^s:=by rw[hI.o.eq,List.take_of_length_le (by rw[HN.o];exact Nat.le_refl _)]
   have Htr:=hZ (qCI (.slice (some ⟨g,0,none⟩) k k) L wr (by
    have:=qAd.of_blk hbl.o (cap:=k) (by omega) (by omega);rw[hLl]at this;exact this) hI.o.low (by omega))
   rw[hv]at Htr;clear hv
   go_wp2_with (go_at_call 136;refine Htr.o.mono ?_;rintro e w6 ⟨v6,rfl,q1,rfl⟩;have Q1:=hZ q1;clear q1)
   go_ret;exact⟨_,rfl,Q1.o,by rw[Hg.o];exact hB.o⟩
open Go
section
variable {P:Program}{md:Region.Mode}{ops:Array Oper}{Q:Exit->Act->World->Prop}{S:World->Prop}{last:Nat}
def qBl(P:Program)(md:Region.Mode)(ops:Array Oper)(Q:Exit->Act->World->Prop)(S:World->Prop)(last:Nat):Nat->Array Bool->Act->World->Prop
 |0,listed,a,w=>Region.ready md ops listed=[]/\Q .normal a w
 |fuel+1,listed,a,w=>
  (Region.ready md ops listed=[]->Q .normal a w)/\
  ∀i∈Region.ready md ops listed,wpOp P ops Q i (fun a' w'=>(i≠last->S w')/\qBl P md ops Q S last fuel (listed.setIfInBounds i true) a' w') a w
theorem qEy:∀(fuel:Nat) (listed:Array Bool) (a:Act) (w:World),qBl P md ops Q S last fuel listed a w->wpAny P md ops Q fuel listed a w
 |0,_,_,_,h=>h
 |fuel+1,_,_,_,h=>⟨h.1,fun i hi=>wpOp_mono (fun a' w' h'=>qEy fuel _ a' w' h'.2) (h.2 i hi)⟩
def qFv(md:Region.Mode)(ops:Array Oper)(last i:Nat):Bool:=
 i != last && match ops[last]? with
  |some o=>o.after.any fun e=>Region.binds md e && e.on==i
  |none=>true
theorem qGE{i:Nat}{listed:Array Bool}(hw:qFv md ops last i=true)(hr:i∈Region.ready md ops listed):last∉Region.ready md ops listed:=by
 intro hl;unfold qFv at hw;obtain⟨hlun,ol,hol,hall⟩:=mem_ready.1 hl;rw[hol]at hw;simp only[Bool.and_eq_true,Array.any_eq_true',beq_iff_eq]at hw;obtain⟨-,e,he,hb,heq⟩:=hw;have h1:=hall e he hb;have h0:=(mem_ready.1 hr).1;rw[heq]at h1;rcases Nat.lt_or_ge i listed.size with h'|h'
 ·simp[h']at h0 h1
  rw[h0]at h1;cases h1
 ·simp[Array.getElem?_eq_none h']at h1
theorem qE0{i:Nat}{oi:Oper}{v:Value}(hi:ops[i]? =some oi)(hsel:∀(j:Nat) (o:Oper) cs b,ops[j]? =some o->o.op≠ .select cs b)
 (hQ:∀c a w,Q (.panic c) (a.put oi.dst v) w->Q (.panic c) a w)(hwt:qFv md ops last i=true)(fuel:Nat):
 ∀(listed:Array Bool) (a:Act) (w:World),
  (∀j oj,ops[j]? =some oj->j≠i->listed.getD j true=false->(∀e∈oj.after,Region.binds md e=true->e.on≠i)->oi.apart ops oj=true)->
  i∈Region.ready md ops listed->YieldsIf P ops S oi v a->S w->
  qBl P md ops Q S last fuel (listed.setIfInBounds i true) (a.put oi.dst v) w->qBl P md ops Q S last (fuel+1) listed a w:=by
 induction fuel with
 |zero=>
  intro listed a w _ hr hy hS H;refine⟨fun h=>absurd hr (by rw[h];simp),fun j hj=> ?_⟩;by_cases hji:j=i
  ·subst hji
   exact hy.wpOp hi hS ⟨fun _=>hS,H⟩
  ·exact absurd (ready_mono hj hji) (by rw[H.1];simp)
 |succ fuel ih=>
  intro listed a w hfree hr hy hS H;refine⟨fun h=>absurd hr (by rw[h];simp),fun j hj=> ?_⟩;by_cases hji:j=i
  ·subst hji
   exact hy.wpOp hi hS ⟨fun _=>hS,H⟩
  ·have hjl:j≠last:=fun e=>qGE hwt hr (e▸hj)
   obtain⟨hjun,oj,hoj,hall⟩:=mem_ready.1 hj;have hnot:∀e∈oj.after,Region.binds md e=true->e.on≠i:=by
    intro e he hb heq;have h1:=hall e he hb;have h0:=(mem_ready.1 hr).1;rw[heq]at h1;rcases Nat.lt_or_ge i listed.size with h'|h'
    ·simp[h']at h0 h1
     rw[h0]at h1;cases h1
    ·simp[Array.getElem?_eq_none h']at h1
   have h2:=wpOp_putIf hoj (hfree j oj hoj hji hjun hnot) (fun cs b=>hsel i oi cs b hi) (fun cs b=>hsel j oj cs b hoj) hQ hy (H.2 j (ready_mono hj hji));refine wpOp_mono (fun a' w' h3=>⟨h3.2.1,ih _ a' w' (fun k ok hk hki hun hno=> ?_) (ready_mono hr (Ne.symm hji)) h3.1 (h3.2.1 hjl) ?_⟩) h2
   ·refine hfree k ok hk hki ?_ hno
    by_cases hjk:j=k
    ·subst hjk;exact hjun
    ·rw[getD_set_ne true hjk]at hun;exact hun
   ·rw[Array.setIfInBounds_comm _ _ hji]
    exact h3.2.2
theorem qP2(i d:Nat){oi:Oper}{v:Value}{fuel:Nat}{listed:Array Bool}{tmps:Array Value}{ds:List Deferred}{w:World}(hi:ops[i]? =some oi)(hd:oi.dst=some d)
 (hs:Region.noSelect ops=true)(hf:Region.free md ops listed i=true)(hr:(Region.ready md ops listed).contains i=true)(hwt:qFv md ops last i=true)
 (hQ:∀c a w,Q (.panic c) (a.put oi.dst v) w->Q (.panic c) a w)(hw:Region.wanted oi (yielded ops tmps)=true)(hy:∀w,S w->(execOp (Act.eval ⟨tmps,ds⟩) oi).run P w=.ok (.value v) w)(hS:S w)
 (h:qBl P md ops Q S last fuel (listed.setIfInBounds i true) ⟨tmps.setIfInBounds d v,ds⟩ w):qBl P md ops Q S last (fuel+1) listed ⟨tmps,ds⟩ w:=
 qE0 hi (Region.noSelect_spec hs) hQ hwt fuel listed _ w (Region.free_spec hi hf) (by simpa using hr) (Or.inl ⟨hw,hy⟩) hS (by rw[hd];exact h)
theorem qR9(i d:Nat){oi:Oper}{fuel:Nat}{listed:Array Bool}{tmps:Array Value}{ds:List Deferred}{w:World}(hi:ops[i]? =some oi)(hd:oi.dst=some d)
 (hs:Region.noSelect ops=true)(hf:Region.free md ops listed i=true)(hr:(Region.ready md ops listed).contains i=true)(hwt:qFv md ops last i=true)
 (hQ:∀c a w,Q (.panic c) (a.put oi.dst undef) w->Q (.panic c) a w)(hw:Region.wanted oi (yielded ops tmps)=false)(hS:S w)
 (h:qBl P md ops Q S last fuel (listed.setIfInBounds i true) ⟨tmps.setIfInBounds d undef,ds⟩ w):qBl P md ops Q S last (fuel+1) listed ⟨tmps,ds⟩ w:=
 qE0 hi (Region.noSelect_spec hs) hQ hwt fuel listed _ w (Region.free_spec hi hf) (by simpa using hr) (Or.inr ⟨hw,rfl⟩) hS (by rw[hd];exact h)
theorem qGK{listed:Array Bool}{a:Act}{w:World}(hr:Region.ready md ops listed=[])(h:Q .normal a w):∀fuel,qBl P md ops Q S last fuel listed a w
 |0=>⟨hr,h⟩
 |_+1=>⟨fun _=>h,by rw[hr];simp⟩
theorem qA2(i:Nat){o:Oper}{fuel:Nat}{listed:Array Bool}{a:Act}{w:World}(hr:Region.ready md ops listed=[i])(ho:ops[i]? =some o)
 (h:∀K':Act->World->Prop,Shut (∀a w,S w->(S w->qBl P md ops Q S last fuel (listed.setIfInBounds i true) a w)->K' a w)->if Region.wanted o (yielded ops a.tmps)=true then Oper.wp P o a w K' Q else K' (a.put o.dst undef) w):
 qBl P md ops Q S last (fuel+1) listed a w:=by
 refine⟨fun h0=>absurd (hr.symm.trans h0) (by simp),fun j hj=> ?_⟩;rw[hr,List.mem_singleton]at hj;subst hj;exact wpOp_step ho (fun K' hK=>h K' (fun a w hS hW=>hK a w ⟨fun _=>hS,hW hS⟩))
theorem qFd{o:Oper}{fuel:Nat}{listed:Array Bool}{a:Act}{w:World}(hr:Region.ready md ops listed=[last])(ho:ops[last]? =some o)(he:Region.ready md ops (listed.setIfInBounds last true)=[])
 (h:∀K':Act->World->Prop,Shut (∀a w,Q .normal a w->K' a w)->if Region.wanted o (yielded ops a.tmps)=true then Oper.wp P o a w K' Q else K' (a.put o.dst undef) w):
 qBl P md ops Q S last (fuel+1) listed a w:=by
 refine⟨fun h0=>absurd (hr.symm.trans h0) (by simp),fun j hj=> ?_⟩;rw[hr,List.mem_singleton]at hj;subst hj;refine wpOp_step ho (fun K' hK=>h K' (fun a w hQ=>hK a w ⟨fun h=>absurd rfl h,?_⟩));cases fuel with
 |zero=>exact⟨he,hQ⟩
 |succ f=>exact⟨fun _=>hQ,by rw[he];simp⟩
theorem qBQ{id:Nat}{a:Act}{w:World}(last:Nat)(S:World->Prop)(hm:P.follows .mixedOrders=true)(hS:S w.drew)
 (h:S w.drew->qBl P .any ops Q S last ops.size (Array.replicate ops.size false) a w.drew):(Code.region id ops true).wp P Q a w:=
 wp_region_any hm (qEy _ _ _ _ (h hS))
end
section
variable {P:Program}{md:Region.Mode}{ops:Array Oper}{Q:Exit->Act->World->Prop}{S:World->Prop}{last:Nat}
theorem kU(i d:Nat){oi:Oper}{v:Value}{T:Array Value}{fuel:Nat}{listed:Array Bool}{tmps:Array Value}{ds:List Deferred}{w:World}
    (h:qBl P md ops Q S last fuel (listed.setIfInBounds i true) ⟨T,ds⟩ w)
    (hi:ops[i]? =some oi:=by rfl)(hd:oi.dst=some d:=by rfl)
    (hy:∀w,S w->(execOp (Act.eval ⟨tmps,ds⟩) oi).run P w=.ok (.value v) w:=by(intro w hSw;go_simp;first|done|with_reducible rfl))
    (hT:tmps.setIfInBounds d v=T:=by(simp only[List.setIfInBounds_toArray,List.set_cons_zero,List.set_cons_succ];try rfl))
    (hs:Region.noSelect ops=true:=by kernel_rfl)(hf:Region.free md ops listed i=true:=by kernel_rfl)(hr:(Region.ready md ops listed).contains i=true:=by kernel_rfl)(hwt:qFv md ops last i=true:=by kernel_rfl)
    (hQ:∀c a w,Q (.panic c) (a.put oi.dst v) w->Q (.panic c) a w:=by exact fun _ _ _ h=>h)(hw:Region.wanted oi (yielded ops tmps)=true:=by rfl)(hS:S w:=by assumption):qBl P md ops Q S last (fuel+1) listed ⟨tmps,ds⟩ w:=
  qP2 i d hi hd hs hf hr hwt hQ hw hy hS (hT▸h)
theorem jU(i d:Nat){oi:Oper}{T:Array Value}{fuel:Nat}{listed:Array Bool}{tmps:Array Value}{ds:List Deferred}{w:World}
    (h:qBl P md ops Q S last fuel (listed.setIfInBounds i true) ⟨T,ds⟩ w)
    (hi:ops[i]? =some oi:=by rfl)(hd:oi.dst=some d:=by rfl)
    (hT:tmps.setIfInBounds d undef=T:=by(simp only[List.setIfInBounds_toArray,List.set_cons_zero,List.set_cons_succ];try rfl))
    (hs:Region.noSelect ops=true:=by kernel_rfl)(hf:Region.free md ops listed i=true:=by kernel_rfl)(hr:(Region.ready md ops listed).contains i=true:=by kernel_rfl)(hwt:qFv md ops last i=true:=by kernel_rfl)
    (hQ:∀c a w,Q (.panic c) (a.put oi.dst undef) w->Q (.panic c) a w:=by exact fun _ _ _ h=>h)(hw:Region.wanted oi (yielded ops tmps)=false:=by rfl)(hS:S w:=by assumption):qBl P md ops Q S last (fuel+1) listed ⟨tmps,ds⟩ w:=
  qR9 i d hi hd hs hf hr hwt hQ hw hS (hT▸h)
end
structure KnI(D N0 n m k:Nat)(N Q:List Nat):Prop where
 len:N.length=m+n
 low:Low W2 N
 qlen:Q.length=m
 qlow:Low W2 Q
 zero:∀j (h:j<Q.length),j<k->Q[j]=0
 eq:val W2 N+D*val W2 Q=N0
 lt:val W2 N<D*W2^k
theorem KnI.start(D N0 n m:Nat)(N:List Nat)(hl:N.length=m+n)(lN:Low W2 N)(hv:val W2 N=N0)(hlt:N0<D*W2^m):KnI D N0 n m m N (List.replicate m 0):=by
 refine⟨hl,lN,by simp,fun x hx=>by rw[(List.mem_replicate.1 hx).2];decide,fun j h _=>by simp,?_,by omega⟩;rw[qCx W2 _ (fun x hx=>(List.mem_replicate.1 hx).2)];omega
theorem KnI.split{D N0 n m a:Nat}{N Q:List Nat}(h:KnI D N0 n m (a+1) N Q)(ha:a<m):∃A P C,N=A++P++C/\A.length=a/\P.length=n+1/\A.length+P.length+C.length=m+n/\Low W2 P:=by
 refine⟨N.take a,(N.drop a).take (n+1),(N.drop a).drop (n+1),?_,?_,?_,?_,qEg (fun x hx=>h.low x (List.mem_of_mem_drop hx)) _⟩
 ·rw[List.append_assoc,List.take_append_drop,List.take_append_drop]
 ·rw[List.length_take,h.len];omega
 ·rw[List.length_take,List.length_drop,h.len];omega
 ·rw[List.length_take,List.length_take,List.length_drop,List.length_drop,List.length_drop,h.len];omega
theorem qRX(A P C:List Nat):val W2 (A++P++C)=val W2 A+W2^A.length*val W2 P+W2^A.length*W2^P.length*val W2 C:=by
 rw[List.append_assoc,qA4,qA4,Nat.mul_add,<-Nat.mul_assoc,Nat.add_assoc]
theorem KnI.high{D N0 n m a:Nat}{A P C Q:List Nat}(h:KnI D N0 n m (a+1) (A++P++C) Q)(hA:A.length=a)(hP:P.length=n+1)(hD:D<W2^n):val W2 C=0/\val W2 P<D*W2:=by
 have h1:=h.lt;rw[qRX,hA,hP,Nat.pow_succ W2 a,Nat.pow_succ W2 n]at h1;have hX:0<W2^a:=Nat.pow_pos (by decide);have hc:val W2 C=0:=by
  rcases Nat.eq_zero_or_pos (val W2 C)with h0|h0
  ·exact h0
  ·have h2:W2^a*(W2^n*W2)*1<=W2^a*(W2^n*W2)*val W2 C:=Nat.mul_le_mul_left _ h0
   have h3:D*(W2^a*W2)<=W2^n*(W2^a*W2):=Nat.mul_le_mul_right _ (Nat.le_of_lt hD);have h4:W2^n*(W2^a*W2)=W2^a*(W2^n*W2):=by rw[Nat.mul_left_comm]
   omega
 refine⟨hc,?_⟩;rw[hc,Nat.mul_zero,Nat.add_zero]at h1;have h5:W2^a*val W2 P<W2^a*(D*W2):=by
  rw[Nat.mul_left_comm D]at h1;omega
 exact Nat.lt_of_mul_lt_mul_left h5
theorem KnI.next{D N0 n m a:Nat}{A P C Q:List Nat}(h:KnI D N0 n m (a+1) (A++P++C) Q)(ha:a<Q.length)(hA:A.length=a)(hP:P.length=n+1)(hD:D<W2^n)(P':List Nat)(x:Nat)(hP':P'.length=n+1)(lP':Low W2 P')(hx:x<W2)
 (he:val W2 P'+x*D=val W2 P)(hlt:val W2 P'<D):KnI D N0 n m a (A++P'++C) (Q.set a x):=by
 have hc:=(h.high hA hP hD).1;have hX:0<W2^a:=Nat.pow_pos (by decide);have lA:Low W2 A:=fun y hy=>h.low y (by simp[hy]);have vA:=qBP W2 (by decide) A lA;rw[hA]at vA;refine⟨?_,?_,by rw[List.length_set];exact h.qlen,qBe h.qlow _ _ hx,fun j hj hja=> ?_,?_,?_⟩
 ·have:=h.len
  simp only[List.length_append]at this ⊢;omega
 ·exact qEH (qEH lA lP') (fun y hy=>h.low y (by simp[hy]))
 ·rw[List.getElem_set_ne (by omega)]
  exact h.zero j (by rw[List.length_set]at hj;exact hj) (by omega)
 ·have e1:=qCu W2 Q a x ha
  rw[h.zero a ha (by omega),Nat.zero_mul,Nat.add_zero]at e1;have e2:=h.eq;rw[qRX,hc,hA,Nat.mul_zero,Nat.add_zero,<-he]at e2;rw[qRX,hc,hA,e1,Nat.mul_zero,Nat.add_zero];generalize W2^a=X at *;generalize val W2 P'=p at *;generalize val W2 A=q at *;generalize val W2 Q=r at *
  grind
 ·rw[qRX,hc,hA,Nat.mul_zero,Nat.add_zero]
  have h1:W2^a*(val W2 P'+1)<=W2^a*D:=Nat.mul_le_mul_left _ hlt;rw[Nat.mul_add,Nat.mul_one]at h1;rw[Nat.mul_comm D];omega
theorem KnI.done{D N0 n m:Nat}{N Q:List Nat}(h:KnI D N0 n m 0 N Q)(hD:D<W2^n):val W2 Q=N0/D/\val W2 (N.take n)=N0%D:=by
 have h1:=h.lt;have h2:=h.eq;rw[Nat.pow_zero,Nat.mul_one]at h1;have hp:0<D:=by omega
 have hq:N0/D=val W2 Q/\N0%D=val W2 N:=by
  refine(Nat.div_mod_unique hp).2 ⟨by omega,h1⟩
 refine⟨hq.1.symm,?_⟩;rw[hq.2];have h3:N=N.take n++N.drop n:=(List.take_append_drop n N).symm;have hl:(N.take n).length=n:=by rw[List.length_take,h.len];omega
 have h4:val W2 N=val W2 (N.take n)+W2^n*val W2 (N.drop n):=by
  conv=>lhs;rw[h3]
  rw[qA4,hl]
 rcases Nat.eq_zero_or_pos (val W2 (N.drop n))with h0|h0
 ·rw[h0]at h4;omega
 ·have:W2^n*1<=W2^n*val W2 (N.drop n):=Nat.mul_le_mul_left _ h0
  omega
structure InI(D n:Nat)(P:List Nat)(q f:Nat)(P':List Nat):Prop where
 len:P'.length=n+1
 low:Low W2 P'
 fl:f<=1
 ql:q<W2
 ge:val W2 P/D<=q
 eq:val W2 P'+q*D=val W2 P+f*W2^(n+1)
theorem InI.done{D n:Nat}{P:List Nat}{q:Nat}{P':List Nat}(h:InI D n P q 0 P')(hD:0<D):val W2 P'+q*D=val W2 P/\val W2 P'<D:=by
 have h1:=h.eq;rw[Nat.zero_mul,Nat.add_zero]at h1;refine⟨h1,?_⟩;have h2:=(Nat.div_lt_iff_lt_mul hD).1 (Nat.lt_succ_of_le h.ge);rw[Nat.succ_mul]at h2;omega
theorem InI.less{D n:Nat}{P:List Nat}{q:Nat}{P':List Nat}(h:InI D n P q 1 P')(hD:0<D):0<q/\∀P2 f,P2.length=n+1->Low W2 P2->f<=1->val W2 P2+f*W2^(n+1)=val W2 P'+D->InI D n P (q-1) (1-f) P2:=by
 have h1:=h.eq;rw[Nat.one_mul]at h1;have h2:=qBP W2 (by decide) P' h.low;rw[h.len]at h2;have h3:val W2 P/D<q:=by
  refine(Nat.div_lt_iff_lt_mul hD).2 ?_;omega
 have hq0:0<q:=Nat.zero_lt_of_lt h3;refine⟨hq0,fun P2 f hl lo hf he=>⟨hl,lo,by omega,by have:=h.ql;omega,Nat.le_sub_one_of_lt h3,?_⟩⟩;clear h3;obtain⟨r,rfl⟩:∃r,q=r+1:=⟨q-1,by omega⟩;rw[Nat.add_sub_cancel];rw[Nat.add_mul,Nat.one_mul]at h1;rcases(show f=0\/f=1 by omega)with rfl|rfl
 ·simp only[Nat.zero_mul,Nat.sub_zero,Nat.one_mul]at *;omega
 ·simp only[Nat.sub_self,Nat.zero_mul,Nat.one_mul]at *;omega
theorem qKv(x:Nat)(h0:0<x)(h:x<4294967296):32-Lib.bitLen x<32/\2147483648<=x*2^(32-Lib.bitLen x)/\x*2^(32-Lib.bitLen x)<4294967296:=by
 obtain⟨h1,h2,h3⟩:=Lib.bitLenAux_bounds 64 x (Nat.lt_trans h (by decide)) (by omega);have hL:=qLe x h;unfold Lib.bitLen at *;generalize Lib.bitLenAux 64 x=L at *;have e1:2^(L-1)*2^(32-L)=2147483648:=by
  rw[<-Nat.pow_add,show L-1+(32-L)=31 by omega]
 have e2:2^L*2^(32-L)=4294967296:=by
  rw[<-Nat.pow_add,show L+(32-L)=32 by omega]
 refine⟨by omega,?_,?_⟩
 ·rw[<-e1];exact Nat.mul_le_mul_right _ h2
 ·rw[<-e2];exact Nat.mul_lt_mul_of_pos_right h3 (Nat.pow_pos (by decide))
theorem qOG(d n s:Nat)(L:List Nat)(hB:(qAm W2 d).length=n)(h1:1<=n)(hx:n-1<(qAm W2 d).length)(hs:s=32-Lib.bitLen (qAm W2 d)[n-1])(hL:L.length=n+1)(lL:Low W2 L)(hv:val W2 L=d*2^s):
 s<32/\(L.take n).length=n/\Low W2 (L.take n)/\val W2 (L.take n)=d*2^s/\d*2^s<W2^n/\∀h:n-1<(L.take n).length,2147483648<=(L.take n)[n-1]:=by
 have hlow:=qAv W2 qAk d;have hxl:(qAm W2 d)[n-1]<4294967296:=hlow _ (List.getElem_mem hx);have hx0:0<(qAm W2 d)[n-1]:=by
  refine Nat.pos_of_ne_zero fun h0=>qGg W2 qAk d ?_;rw[List.getLast?_eq_getElem?,hB,List.getElem?_eq_getElem hx,h0]
 obtain⟨b1,b2,b3⟩:=qKv _ hx0 hxl;rw[<-hs]at b1 b2 b3;have hT:val W2 (qAm W2 d)=d:=qAu W2 qAk d;have e1:=qHi (qAm W2 d) n hB h1 hx;have e2:=qCb (qAm W2 d) (n-1) hlow (by omega);rw[hT]at e1;have hX:0<W2^(n-1):=Nat.pow_pos (by decide);have hS:0<2^s:=Nat.pow_pos (by decide);have hW:=qFl n h1;have b4:((qAm W2 d)[n-1]+1)*2^s<=4294967296:=by
  obtain⟨t,ht⟩:∃t,4294967296=2^s*t:=⟨2^(32-s),by rw[<-Nat.pow_add,show s+(32-s)=32 by omega]⟩;rw[ht,Nat.mul_comm ((qAm W2 d)[n-1]) (2^s)]at b3;have:=Nat.lt_of_mul_lt_mul_left b3;rw[ht,Nat.mul_comm];exact Nat.mul_le_mul_left _ this
 generalize (qAm W2 d)[n-1]=x at *;generalize val W2 ((qAm W2 d).take (n-1))=lo at *;have c1:2147483648*W2^(n-1)<=d*2^s:=by
  have h2:x*2^s*W2^(n-1)<=d*2^s:=by
   rw[Nat.mul_right_comm];exact Nat.mul_le_mul_right _ (by omega)
  exact Nat.le_trans (Nat.mul_le_mul_right _ b2) h2
 have c2:d*2^s<W2^n:=by
  have h2:d*2^s<(x+1)*W2^(n-1)*2^s:=Nat.mul_lt_mul_of_pos_right (by rw[Nat.add_mul,Nat.one_mul];omega) hS;have h3:(x+1)*W2^(n-1)*2^s<=W2^n:=by
   rw[Nat.mul_right_comm,hW];exact Nat.mul_le_mul_right _ b4
  omega
 have hl:(L.take n).length=n:=by rw[List.length_take,hL];omega
 have hlowT:=qEg lL n;have hvt:val W2 (L.take n)=d*2^s:=by
  have h3:L=L.take n++L.drop n:=(List.take_append_drop n L).symm;have h4:val W2 L=val W2 (L.take n)+W2^n*val W2 (L.drop n):=by
   conv=>lhs;rw[h3]
   rw[qA4,hl]
  rcases Nat.eq_zero_or_pos (val W2 (L.drop n))with h0|h0
  ·rw[h0]at h4;omega
  ·have:W2^n*1<=W2^n*val W2 (L.drop n):=Nat.mul_le_mul_left _ h0
   omega
 refine⟨b1,hl,hlowT,hvt,c2,fun h=> ?_⟩;have e3:=qHi (L.take n) n hl h1 h;have e4:=qCb (L.take n) (n-1) hlowT (by omega);rw[hvt]at e3;have e5:2147483648*W2^(n-1)<((L.take n)[n-1]+1)*W2^(n-1):=by
  rw[Nat.add_mul,Nat.one_mul];omega
 have:=Nat.lt_of_mul_lt_mul_right e5;omega
theorem qOS(m d:Nat)(hd:d≠0):m<d*W2^((qAm W2 m).length-(qAm W2 d).length+1):=by
 have h1:=qBP W2 (by decide) _ (qAv W2 qAk m);rw[qAu W2 qAk]at h1;have h2:W2^((qAm W2 d).length-1)<=d:=by
  rcases Nat.lt_or_ge d (W2^((qAm W2 d).length-1))with h|h
  ·have:=qBh W2 qAk _ _ h
   have h0:0<(qAm W2 d).length:=qJO.2 hd;omega
  ·exact h
 have h3:W2^(qAm W2 m).length<=W2^((qAm W2 d).length-1+((qAm W2 m).length-(qAm W2 d).length+1)):=Nat.pow_le_pow_right (by decide) (by omega);rw[Nat.pow_add]at h3;exact Nat.lt_of_lt_of_le h1 (Nat.le_trans h3 (Nat.mul_le_mul_right _ h2))
theorem Blk.part{w:World}{g:Nat}{A P C:List Nat}(h:Blk w g 151 .u32 (A++P++C))(cap:Nat)(h1:P.length<=cap)(h2:cap<=9223372036854775807):qAd .u32 w (.slice (some ⟨g,A.length,none⟩) P.length cap) P:=
 ⟨_,cap,rfl,h1,h2,fun _=>⟨g,A.length,rfl,h.lt,fun j hj=>h.mid j hj⟩⟩
theorem Blk.front{w:World}{g n:Nat}{L:List Nat}(h:Blk w g 151 .u32 L)(hn:n<=L.length)(cap:Nat)(h1:n<=cap)(h2:cap<=9223372036854775807):qAd .u32 w (.slice (some ⟨g,0,none⟩) n cap) (L.take n):=by
 have hl:(L.take n).length=n:=by rw[List.length_take];omega
 refine⟨_,cap,by rw[hl],by omega,h2,fun _=>⟨g,0,rfl,h.lt,fun j hj=> ?_⟩⟩;rw[List.getElem_take,Nat.zero_add];exact h.cell j (by omega)
theorem qJ8(va vb:Value)(m d:Nat)(w:World)(ha:qAK w va m)(hb:qAK w vb d)(hm:m<LIM)(hd:W2<=d)(hdm:d<=m):
 Calls Tryz.prog 113 #[va,vb] w (qKn m d w):=by
 obtain⟨i0,hi,hz0,hz1,hz2⟩:=info_parts qE6;have Hi:=hZ hi;have Hz0:=hZ hz0;have Hz1:=hZ hz1;have Hz2:=hZ hz2;clear hi hz0 hz1 hz2;have Ha:=hZ ha;have Hb:=hZ hb;have hla:=(qA6 m).2 hm;have hlb:=(qA6 d).2 (by omega);have hle:=qBk W2 qAk d m hdm;have hl2:1<(qAm W2 d).length:=qGf W2 qAk 1 d (by rw[Nat.pow_one];exact hd);have Hpow:=hZ (qOS m d (by unfold W2 at hd;omega));have Hcmp:=hZ (qCi va vb m d w ha hb (by omega) (by omega));have hc3:¬(qAV (m:Int) (d:Int)<0):=by
  unfold qAV;rw[if_neg (by omega)]
  split<;>simp
 generalize qAV (m:Int) (d:Int)=C at *;obtain⟨aa,ca,rfl,h1,h2,h3⟩:=ha;obtain⟨ab,cb,rfl,h4,h5,h6⟩:=hb;have hx:(qAm W2 d).length-1<(qAm W2 d).length:=by omega
 obtain⟨b,off,rfl,hbl,hcell⟩:=h6 (by omega);have c0:=hcell _ hx;have hxl:(qAm W2 d)[(qAm W2 d).length-1]<4294967296:=qAv W2 qAk d _ (List.getElem_mem hx);have hx0:0<(qAm W2 d)[(qAm W2 d).length-1]:=by
  refine Nat.pos_of_ne_zero fun h0=>qGg W2 qAk d ?_;rw[List.getLast?_eq_getElem?,List.getElem?_eq_getElem hx,h0]
 have Hnorm:=hZ (fun s L=>qOG d (qAm W2 d).length s L rfl (by omega) hx);have Hls:=hZ (fun(w':World) s (hB:Below w.heap.size w w')=>qFG _ (qAm W2 m) s w' (qAd.below Ha.o (Nat.le_refl _) hB) (qAv W2 qAk m));have Hls2:=hZ (fun(w':World) s (hB:Below w.heap.size w w')=>qFG _ (qAm W2 d) s w' (qAd.below Hb.o (Nat.le_refl _) hB) (qAv W2 qAk d));rw[qAu W2 qAk]at Hls Hls2;clear h3 h6 hcell;generalize (qAm W2 d)[(qAm W2 d).length-1]=x at *;generalize (qAm W2 m).length=M at *;generalize (qAm W2 d).length=n at *;have Hc:=hZ c0;have Hdm:=hZ hdm;have Hd:=hZ hd;have hne1:((n:Int)==1)=false:=by simp;omega
 have i1:(0:Int)<=(n:Int)-1:=by omega
 have i2:(n:Int)-1<(n:Int):=by omega
 have i3:((n:Int)-1).toNat=n-1:=by omega
 clear c0 hm hdm hd hlb
 go_enter Tryz.func113,Tryz.ntmps113
 go_wp2_with fail
 refine wp_scope_straight ?_
 go_wp2_with fail
 refine Hcmp.o.mono ?_;rintro e w' ⟨rfl,k,rfl⟩;have c1:(w.drewN k).cell? ⟨b,off+(n-1),none⟩=some (.int .u32 (x:Int)):=Hc.o
 go_wp2_with fail
 refine(qOO x _ hxl).mono ?_;rintro e w' ⟨rfl,rfl⟩;obtain⟨s,hs⟩:=eX (32-Lib.bitLen x);have Hs:=hZ hs;have hs32:s<32:=by rw[<-hs];exact(qKv x hx0 hxl).1
 rw[hs];clear hs Hcmp c1;have HBk:Hid (Below w.heap.size w (w.drewN k)):=hZ ⟨rfl,rfl,rfl,Nat.le_refl _,fun _ _=>rfl⟩;obtain⟨w1,hw1⟩:=eX (w.drewN k);have hz1:w.heap.size=w1.heap.size:=by rw[<-hw1];rfl
 have Hzw:=hZ hz1;rw[hw1]at HBk ⊢;clear hw1 hz1
 go_wp2_with fail
 refine qBQ 9 (fun _=>True) (by kernel_rfl) (trivial) (fun hHeld=> ?_);refine kU 0 45 ?_;refine kU 1 46 ?_;refine kU 3 48 ?_;refine kU 4 49 ?_;refine kU 6 51 ?_;refine qA2 2 (by kernel_rfl) rfl (fun K hK=> ?_);go_simp;refine(Hls.o w1.drew s (HBk.o.drew) hs32 (by omega)).mono ?_;rintro e w2 ⟨N0,rfl,hblk2,lN,hlN,hvN,hB2⟩;obtain⟨g1,hg1⟩:=eX w1.drew.heap.size;have Hg1:=hZ (show w1.heap.size=g1 from hg1);rw[hg1]at hblk2 hB2 ⊢;have HN:=hZ (And.intro lN (And.intro hlN hvN));have HblkN:=hZ hblk2;have HB2:=hZ (HBk.o.drew.trans (by rw[Hzw.o,Hg1.o];exact hB2));have hz2:g1<w2.heap.size:=hblk2.lt;clear hg1 hblk2 hB2 lN hlN hvN
 go_wp2_with fail
 refine hK.out _ _ (trivial) (fun hHeld=> ?_);clear hK K
 try simp only[Act.put,List.setIfInBounds_toArray,List.set_cons_zero,List.set_cons_succ]
 refine qA2 5 (by kernel_rfl) rfl (fun K hK=> ?_);go_simp;refine(Hls2.o w2 s HB2.o hs32 (by omega)).mono ?_;rintro e w3 ⟨D0,rfl,hblk3,lD,hlD,hvD,hB3⟩;obtain⟨g2,hg2⟩:=eX w2.heap.size;have Hg2:=hZ hg2;rw[hg2]at hblk3 hB3 hz2 ⊢;obtain⟨-,nl,nlow,nv,nlt,ntop⟩:=Hnorm.o s D0 Hs.o.symm hlD lD hvD;have Hnl:=hZ nl;have Hnlow:=hZ nlow;have Hnv:=hZ nv;have Hnlt:=hZ nlt;have Hntop:=hZ ntop;have HblkD:=hZ hblk3;have HblkN3:=hZ (HblkN.o.below hB3 hz2);have HB3:=hZ (HB2.o.trans (hB3.mono (by rw[Hzw.o,Hg1.o];omega)));have hz3:g2<w3.heap.size:=hblk3.lt;clear hg2 hblk3 hB3 lD hlD hvD nl nlow nv nlt ntop Hnorm HblkN HB2
 go_wp2_with fail
 refine hK.out _ _ (trivial) (fun hHeld=> ?_);clear hK K
 try simp only[Act.put,List.setIfInBounds_toArray,List.set_cons_zero,List.set_cons_succ]
 have i9:(n:Int)<=(n:Int)+1:=by omega
 refine kU 7 52 ?_;refine qA2 8 (by kernel_rfl) rfl (fun K hK=> ?_);go_simp
 go_wp2_with fail
 refine hK.out _ _ (trivial) (fun hHeld=> ?_);clear hK K
 try simp only[Act.put,List.setIfInBounds_toArray,List.set_cons_zero,List.set_cons_succ]
 refine qFd (by kernel_rfl) rfl (by kernel_rfl) (fun K hK=> ?_);go_simp;refine hK.out _ _ ?_;clear hK K
 try simp only[Act.put,List.setIfInBounds_toArray,List.set_cons_zero,List.set_cons_succ]
 clear hHeld;obtain⟨m1,hm1⟩:=eX (M-n+1);have hm1I:(M:Int)-(n:Int)+1=(m1:Int):=by omega
 have Hm1:=hZ hm1;clear hm1
 go_wp2_with (at_make;refine qAD _ rfl _ _ 71 rfl 151 i0 .u32 Tryz.underlying71 Hi.o Hz0.o Hz1.o _ _ _ _ m1 rfl rfl rfl rfl (by rw[Hz2.o];omega) (by omega) ?_)
 intro w4 hblk4 hB4 hz4;obtain⟨gq,hgq⟩:=eX w3.heap.size;rw[hgq]at hblk4 hB4 hz4 hz3 ⊢;have HblkQ:=hZ hblk4;have HblkD4:=hZ (HblkD.o.below hB4 hz3);have HblkN4:=hZ (HblkN3.o.below hB4 (by omega));have hgs:w.heap.size<=g1:=by rw[Hzw.o,Hg1.o];exact Nat.le_refl _
 have HB4:=hZ (HB3.o.trans (hB4.mono (by omega)));clear hgq hblk4 hB4 HblkD HblkN3 HB3
 go_wp2
 go_step3
 go_wp2
 have HK0:Hid (KnI (d*2^s) (m*2^s) n m1 m1 N0 (List.replicate m1 0)):=hZ (KnI.start _ _ n m1 N0 (by rw[HN.o.2.1,<-Hm1.o];omega) HN.o.1 HN.o.2.2 (by
  rw[Nat.mul_right_comm,<-Hm1.o];exact Nat.mul_lt_mul_of_pos_right Hpow.o (Nat.pow_pos (by decide))))
 have hm1b:m1+n=M+1:=by rw[<-Hm1.o];omega
 have HDl:=hZ (show n<=D0.length by have:=Hnl.o;rw[List.length_take]at this;omega);have hDp:Hid (0<d*2^s):=hZ (Nat.mul_pos (by have:=Hd.o;unfold W2 at this;omega) (Nat.pow_pos (by decide)));clear hm1I i1 i2 i3 hne1 hc3
 go_loopg [13] m1 (fun g av wr=>∃(N Q:List Nat),g<=m1/\av=.int .i64 ((g:Int)-1)/\Hid (KnI (d*2^s) (m*2^s) n m1 g N Q)/\Hid (Blk wr g1 151 .u32 N)/\Hid (Blk wr gq 151 .u32 Q)/\Hid (Blk wr g2 151 .u32 D0)/\Hid (Below w.heap.size w wr))
 case atStart=>exact⟨N0,_,Nat.le_refl _,rfl,HK0,HblkN4,HblkQ,HblkD4,HB4⟩
 case round=>
  obtain⟨N,Q,hg,rfl,hK,hbN,hbQ,hbD,hB⟩:=hrel;clear HK0 HblkN4 HblkQ HblkD4 HB4;obtain⟨wo,hwo⟩:∃wo,wo=wr:=⟨_,rfl⟩;subst hwo;cases gk with
  |zero=>
   have hdone:=hK.out.done Hnlt.o;have e1:((0:Nat):Int)-1= -1:=by omega
   rw[e1];have hS0:0<2^s:=Nat.pow_pos (by decide);have hq1:val W2 Q=m/d:=by rw[hdone.1,Nat.mul_div_mul_right _ _ hS0]
   have hr1:val W2 (N.take n)/2^s=m%d:=by rw[hdone.2,Nat.mul_mod_mul_right,Nat.mul_div_cancel _ hS0]
   have hQl:=hK.out.qlen;have hNl:=hK.out.len;have hQrow:=qAd.of_blk (hbQ.o.drew) (cap:=m1) (by omega) (by omega);rw[hQl]at hQrow;have Htrim:=hZ (qCI (.slice (some ⟨gq,0,none⟩) m1 m1) Q wo.drew hQrow hK.out.qlow (by omega));have hNrow:=(hbN.o.drew).front (n:=n) (by omega) (M+1) (by omega) (by omega);have Hshr:=hZ (qJA (.slice (some ⟨g1,0,none⟩) n (M+1)) (N.take n) s wo.drew hNrow (qEg hK.out.low n) hs32 (by rw[List.length_take];omega));rw[hq1]at Htrim;rw[hr1]at Hshr;have i10:(n:Int)<=(M:Int)+1:=by omega
   clear hq1 hr1 hdone hQrow hNrow hQl hNl e1 hS0
   go_wp2_with fail
   refine qBQ 8 (fun _=>True) (by kernel_rfl) (trivial) (fun hHeld=> ?_);refine kU 0 93 ?_;refine kU 2 95 ?_;refine kU 3 96 ?_;refine kU 4 97 ?_;refine kU 5 98 ?_;refine qA2 1 (by kernel_rfl) rfl (fun K hK=> ?_);go_simp;refine Htrim.o.mono ?_;rintro e w5 ⟨vq,rfl,hvq,rfl⟩;have Hvq:=hZ hvq;clear hvq Htrim
   go_wp2_with fail
   refine hK.out _ _ (trivial) (fun hHeld=> ?_);clear hK K
   try simp only[Act.put,List.setIfInBounds_toArray,List.set_cons_zero,List.set_cons_succ]
   refine qA2 6 (by kernel_rfl) rfl (fun K hK=> ?_);go_simp;refine Hshr.o.mono ?_;rintro e w6 ⟨vr,rfl,hvr,hB6⟩;have Hvr:=hZ hvr;have HB6:=hZ hB6;clear hvr hB6 Hshr
   go_wp2_with fail
   refine hK.out _ _ (trivial) (fun hHeld=> ?_);clear hK K
   try simp only[Act.put,List.setIfInBounds_toArray,List.set_cons_zero,List.set_cons_succ]
   refine qA2 7 (by kernel_rfl) rfl (fun K hK=> ?_);go_simp
   go_wp2_with fail
   refine hK.out _ _ (trivial) (fun hHeld=> ?_);clear hK K
   try simp only[Act.put,List.setIfInBounds_toArray,List.set_cons_zero,List.set_cons_succ]
   refine qFd (by kernel_rfl) rfl (by kernel_rfl) (fun K hK=> ?_);go_simp;refine hK.out _ _ ?_;clear hK K
   try simp only[Act.put,List.setIfInBounds_toArray,List.set_cons_zero,List.set_cons_succ]
   clear hHeld
   go_wp2
   refine bodyPost_ret (v:=.tuple #[vq,vr]) (by simp[results,Tryz.results113,go_sem]) rfl ⟨?_,_,_,rfl,?_,?_⟩
   ·exact(show Below w.heap.size w wo.drew from⟨hB.o.os,hB.o.tape,hB.o.output,hB.o.size,hB.o.block⟩).trans (HB6.o.mono hB.o.size)
   ·exact qAd.below Hvq.o (Nat.le_refl _) HB6.o
   ·exact Hvr.o
  |succ a=>
   obtain⟨A,Pt,Cc,rfl,hA,hP,hAPC,lP⟩:=hK.out.split (by omega);obtain⟨hC0,hPlt⟩:=hK.out.high hA hP Hnlt.o;have hge:(0:Int)<=((a+1:Nat):Int)-1:=by omega
   have hpart:=hbN.o.part (M+1-a) (by omega) (by omega);rw[hA,hP]at hpart;have hdiv:=hbD.o.front HDl.o (n+1) (by omega) (by omega);have Hest:=hZ (qQK _ _ Pt (D0.take n) n wo hpart hdiv hP Hnl.o (by omega) (by omega) lP Hnlow.o (by rw[Hnl.o];omega) (Hntop.o _) (by rw[Hnv.o];exact hPlt));rw[Hnv.o]at Hest;have e1:((a+1:Nat):Int)-1=(a:Int):=by omega
   rw[e1];clear e1 hge;have hge:(0:Int)<=(a:Int):=by omega
   have Hb:=hZ (And.intro hA (And.intro hP lP));clear hpart hdiv hC0 hPlt hA hP lP
   go_wp2_with fail
   rw[show a+n+1-a=n+1 by omega];refine Hest.o.mono ?_;rintro e w5 ⟨q,k5,rfl,hqge,hql,rfl⟩;have Hqge:=hZ hqge;have hql':q<4294967296:=hql;have Hsub:=hZ (qHk g1 a (M+1-a) g2 0 (n+1) n q A Pt Cc (D0.take n) (wo.drewN k5) Hb.o.1 Hb.o.2.1 Hnl.o (by omega) (by omega) (by omega) (by omega) (by omega) (by omega) hql (hbN.o.drewN k5) Hb.o.2.2 Hnlow.o (by omega) (hbD.o.drewN k5).lt (fun j hj=>by
    rw[List.getElem_take,Nat.zero_add];exact(hbD.o.drewN k5).cell j (by have:=Hnl.o;have:=HDl.o;omega)))
   clear hqge hql Hest
   go_wp2_with fail
   refine Hsub.o.mono ?_;rintro e w6 ⟨P1,f1,rfl,hb6,hl6,lo6,hf6,he6,hO6⟩;rw[Hnv.o]at he6;have HI1:Hid (InI (d*2^s) n Pt q f1 P1):=hZ ⟨hl6,lo6,hf6,hql',Hqge.o,he6⟩;have Hb6:=hZ hb6;have HO6:=hZ hO6;clear hb6 hl6 lo6 he6 hO6 Hsub
   go_wp2_with fail
   go_loopg [15,16] q (fun g dv mv wy=>∃(f:Nat) (P2:List Nat),dv=.int .u64 (g:Int)/\mv=.bool (decide (f=1))/\g<4294967296/\Hid (InI (d*2^s) n Pt g f P2)/\Hid (Blk wy g1 151 .u32 (A++P2++Cc))/\Hid (qAc (fun k=>k=g1) (wo.drewN k5) wy))
   case atStart=>exact⟨f1,P1,rfl,rfl,hql',HI1,Hb6,HO6⟩
   case round=>
    obtain⟨f,P2,rfl,rfl,hgl,hI,hbP,hO⟩:=hrel;clear HI1 Hb6 HO6;have hfl:=hI.o.fl;have hbQ2:=hZ (hO.o.blk (hbQ.o.drewN k5) (show ¬gq=g1 by omega));have hbD2:=hZ (hO.o.blk (hbD.o.drewN k5) (show ¬g2=g1 by omega));have hB2:Hid (Below w.heap.size w wr):=hZ (qAc.below hO.o (show Below w.heap.size w (wo.drewN k5)from⟨hB.o.os,hB.o.tape,hB.o.output,hB.o.size,hB.o.block⟩) hB.o.size (fun k e=>by omega));rcases(show f=0\/f=1 by omega)with rfl|rfl
    ·have hQl:a<Q.length:=by rw[hK.out.qlen];omega
     have c1:=hbQ2.o.cell a hQl;have c2:=hbQ2.o.frozen a;have hdn:=hI.o.done hDp.o;have HN2:=hZ (hK.out.next hQl Hb.o.1 Hb.o.2.1 Hnlt.o P2 gk hI.o.len hI.o.low hgl hdn.1 hdn.2);have hm2:a<m1:=by omega
     have hwr:IntKind.u32.wrap (gk:Int)=(gk:Int):=by rw[IntKind.wrap_u32];omega
     generalize Q[a]=qa at *;clear hdn
     go_wp2_with fail
     go_roundg a
     case measure=>omega
     case rel=>
      refine⟨A++P2++Cc,Q.set a gk,by omega,by first|rfl|go_num,HN2,hZ (hbP.o.far (p:=⟨gq,a,none⟩) (show g1≠gq by omega) _),hZ (hbQ2.o.set a gk),hZ (hbD2.o.far (p:=⟨gq,a,none⟩) (show g2≠gq by omega) _),hZ (hB2.o.setCell (p:=⟨gq,a,none⟩) (show w.heap.size<=gq by omega) _)⟩
    ·have hl:=hI.o.less hDp.o
     have h0:=hl.1;have Hl:=hZ hl.2;have hde:(gk:Int)-1=((gk-1:Nat):Int):=by omega
     have Hres:=hZ (qIr g1 a (M+1-a) g2 0 (n+1) n A P2 Cc (D0.take n) wr Hb.o.1 hI.o.len Hnl.o (by omega) (by omega) (by omega) (by omega) (by omega) (by omega) hbP.o hI.o.low Hnlow.o (by omega) hbD2.o.lt (fun j hj=>by
      rw[List.getElem_take,Nat.zero_add];exact hbD2.o.cell j (by have:=Hnl.o;have:=HDl.o;omega)))
     clear hl
     go_wp2_with fail
     refine Hres.o.mono ?_;rintro e w7 ⟨P3,f3,rfl,hb7,hl7,lo7,hf7,he7,hO7⟩;rw[Hnv.o]at he7;have HI2:=hZ (Hl.o P3 f3 hl7 lo7 hf7 he7);have Hb7:=hZ hb7;have HO7:=hZ (hO.o.trans hO7);clear hb7 hl7 lo7 he7 hO7 Hres Hl
     go_wp2_with fail
     go_roundg (gk-1)
     case measure=>omega
     case rel=>exact⟨1-f3,P3,by first|rfl|go_num,by rcases(show f3=0\/f3=1 by omega)with rfl|rfl<;>rfl,by omega,HI2,Hb7,HO7⟩
theorem qGe{m d:Nat}(hd0:d≠0)(hm:m<LIM)(hd2:d<LIM):qRb m d:=by
 by_cases h:m<d\/d<W2
 ·exact qJ7 hd0 hm h hd2
 ·exact fun w va vb ha hb=>qJ8 va vb m d w ha hb hm (by omega) (by omega)
theorem qOk(vx vy:Value)(x y:Int)(w:World)(hx:qAr w vx x)(hy:qAr w vy y)(hy0:y≠0)(hlx:x.natAbs<LIM)(hly:y.natAbs<LIM):
 Calls Tryz.prog 50 #[vx,vy] w (qPQ x y w):=qJ9 vx vy x y w hx hy hy0 hlx hly (qGe (by omega) hlx hly)
theorem qQQ(x y:Int)(hy:y≠0):qOf x y*y+(rOf x y:Int)=x/\rOf x y<y.natAbs:=by
 have hp:0<y.natAbs:=by omega
 have h1:=Nat.div_add_mod x.natAbs y.natAbs;have h2:=Nat.mod_lt x.natAbs hp;have hym:∀(s:Bool) (k:Nat),sgn (s != decide (y<0)) k*y=sgn s (y.natAbs*k):=by
  intro s k;have e:((y.natAbs*k:Nat):Int)=(y.natAbs:Int)*(k:Int):=Int.natCast_mul _ _;unfold sgn;rw[e];by_cases h:y<0
  ·have hy2:y= -(y.natAbs:Int):=by omega
   rw[decide_eq_true h];generalize (y.natAbs:Int)=a at *;subst hy2;cases s<;>simp[Int.mul_comm,Int.mul_neg,Int.neg_mul]
  ·have hy2:y=(y.natAbs:Int):=by omega
   rw[decide_eq_false h];generalize (y.natAbs:Int)=a at *;subst hy2;cases s<;>simp[Int.mul_comm,Int.mul_neg,Int.neg_mul]
 by_cases h:x<0/\x.natAbs%y.natAbs≠0
 ·obtain⟨hq,hr⟩:=qMM h
  rw[hq,hr,hym,decide_eq_true h.1];refine⟨?_,by omega⟩;unfold sgn;rw[if_pos rfl,Nat.mul_add,Nat.mul_one];have:=h.1;omega
 ·obtain⟨hq,hr⟩:=qJF h
  rw[hq,hr,hym];refine⟨?_,h2⟩;by_cases hx:x<0
  ·rw[decide_eq_true hx]
   have h0:x.natAbs%y.natAbs=0:=by
    rcases Nat.eq_zero_or_pos (x.natAbs%y.natAbs)with h3|h3
    ·exact h3
    ·exact absurd ⟨hx,by omega⟩ h
   unfold sgn;rw[if_pos rfl,h0];rw[h0]at h1;omega
  ·rw[decide_eq_false hx]
   unfold sgn;rw[if_neg (by simp)];omega
theorem qNa(vx vy:Value)(x y:Int)(w:World)(hx:qAr w vx x)(hy:qAr w vy y)(hlx:x.natAbs<LIM)(hly:y.natAbs<LIM)(hy0:y≠0):
 Calls Tryz.prog 182 #[vx,vy] w (qPN (qOf x y) w):=by
 obtain⟨ax,nx,cx,rfl,hmx⟩:=hx.form;obtain⟨ay,ny,cy,rfl,hmy⟩:=hy.form;obtain⟨n,hn⟩:=eX w.heap.size;have Hn:=hZ hn;obtain⟨W,hW,t1,t2,t3,hBW,hsW⟩:=qDN w 73 (.bool (decide (x<0))) (.slice ax nx cx) (.bool (decide (y<0))) (.slice ay ny cy) (.bool false) (.slice none 0 0) n hn;have Hm:=hZ (qJ9 _ _ x y W (hx.below' (Nat.le_of_eq hn) hBW) (hy.below' (Nat.le_of_eq hn) hBW) hy0 hlx hly (qGe (by omega) hlx hly));clear hx hy hmx hmy hlx hly;generalize decide (x<0)=sx at *;generalize decide (y<0)=sy at *;have HBW:=hZ hBW;have T3:=hZ t3;have d0:=t1.cell0;have d1:=t1.cell1;have d2:=t2.cell0;have d3:=t2.cell1;clear t1 t2 t3 hBW
 go_enter Tryz.func182,Tryz.ntmps182
 go_wp2_with fail
 clear hW;refine Hm.o.mono ?_;rintro e w2 ⟨hB2,vq,vr,rfl,hq,hr⟩;obtain⟨pa,pn,pc,rfl,hPm⟩:=hq.form;obtain⟨ra,rn,rc,rfl,-⟩:=hr.form;have HB2:=hZ (HBW.o.trans (hB2.mono (by omega)));have T32:=T3.o.below hB2 (by omega);have HP:=hZ hPm;have HS2:=hZ (show n+1+1+1<=w2.heap.size by have:=hB2.size;omega);generalize hsp:decide (qOf x y<0)=sp at *;generalize decide ((rOf x y:Int)<0)=sr at *;obtain⟨w3,hw3⟩:=eX ((w2.alloc (.cells #[.bool sp,.slice pa pn pc] 73)).alloc (.cells #[.bool sr,.slice ra rn rc] 73));have HB3:Hid (Below w2.heap.size w2 w3):=hZ (by rw[<-hw3];exact aR.alloc (by simp) _);have T5:Two w3 w2.heap.size 73 (.bool sp) (.slice pa pn pc):=by rw[<-hw3];exact(Two.new _ _ _ _).alloc _
 have p0:=T5.cell0;have p1:=T5.cell1;have T33:=T32.below HB3.o (by have:=HS2.o;omega);have g0:=T33.cell0;have g1:=T33.cell1;have f0:=T33.frozen 0;have f1:=T33.frozen 1;have HT33:=hZ T33;clear hq hr hPm hB2 T32 T5 T33 d0 d1 d2 d3 T3
 go_wp2_with fail
 exact qEs HB2.o HB3.o HS2.o HT33.o HP.o hsp Hn.o (by intro W2 h0 h1;simp[results,Tryz.results182,go_sem,h0,h1]) rfl
theorem qJR(vx vy:Value)(x y:Int)(w:World)(hx:qAr w vx x)(hy:qAr w vy y)(hlx:x.natAbs<LIM)(hly:y.natAbs<LIM)(hy0:y≠0):
 Calls Tryz.prog 183 #[vx,vy] w (qPN (rOf x y:Int) w):=by
 obtain⟨ax,nx,cx,rfl,hmx⟩:=hx.form;obtain⟨ay,ny,cy,rfl,hmy⟩:=hy.form;obtain⟨n,hn⟩:=eX w.heap.size;have Hn:=hZ hn;obtain⟨W,hW,t1,t2,t3,hBW,hsW⟩:=qDN w 73 (.bool (decide (x<0))) (.slice ax nx cx) (.bool (decide (y<0))) (.slice ay ny cy) (.bool false) (.slice none 0 0) n hn;have Hm:=hZ (qJ9 _ _ x y W (hx.below' (Nat.le_of_eq hn) hBW) (hy.below' (Nat.le_of_eq hn) hBW) hy0 hlx hly (qGe (by omega) hlx hly));clear hx hy hmx hmy hlx hly;generalize decide (x<0)=sx at *;generalize decide (y<0)=sy at *;have HBW:=hZ hBW;have T3:=hZ t3;have d0:=t1.cell0;have d1:=t1.cell1;have d2:=t2.cell0;have d3:=t2.cell1;clear t1 t2 t3 hBW
 go_enter Tryz.func183,Tryz.ntmps183
 go_wp2_with fail
 clear hW;refine Hm.o.mono ?_;rintro e w2 ⟨hB2,vq,vr,rfl,hq,hr⟩;obtain⟨ra,rn,rc,rfl,-⟩:=hq.form;obtain⟨pa,pn,pc,rfl,hPm⟩:=hr.form;have HB2:=hZ (HBW.o.trans (hB2.mono (by omega)));have T32:=T3.o.below hB2 (by omega);have HP:=hZ hPm;have HS2:=hZ (show n+1+1+1<=w2.heap.size by have:=hB2.size;omega);generalize hsp:decide ((rOf x y:Int)<0)=sp at *;generalize decide (qOf x y<0)=sr at *;obtain⟨w3,hw3⟩:=eX ((w2.alloc (.cells #[.bool sr,.slice ra rn rc] 73)).alloc (.cells #[.bool sp,.slice pa pn pc] 73));have HB3:Hid (Below w2.heap.size w2 w3):=hZ (by rw[<-hw3];exact aR.alloc (by simp) _);have T5:Two w3 (w2.heap.size+1) 73 (.bool sp) (.slice pa pn pc):=by
  rw[<-hw3];have h9:=Two.new (w2.alloc (.cells #[.bool sr,.slice ra rn rc] 73)) 73 (.bool sp) (.slice pa pn pc);simpa using h9
 have p0:=T5.cell0;have p1:=T5.cell1;have T33:=T32.below HB3.o (by have:=HS2.o;omega);have g0:=T33.cell0;have g1:=T33.cell1;have f0:=T33.frozen 0;have f1:=T33.frozen 1;have HT33:=hZ T33;clear hq hr hPm hB2 T32 T5 T33 d0 d1 d2 d3 T3
 go_wp2_with fail
 exact qEs HB2.o HB3.o HS2.o HT33.o HP.o hsp Hn.o (by intro W2 h0 h1;simp[results,Tryz.results183,go_sem,h0,h1]) rfl
open Go
def qRD(J:Act->World->Prop)(Q:Exit->Act->World->Prop):Exit->Act->World->Prop
 |.normal,a,w=>J a w
 |e,a,w=>Q e a w
theorem qA0{J:Act->World->Prop}{Q:Exit->Act->World->Prop}{a:Act}{w:World}(h:J a w):qRD J Q .normal a w:=h
section
variable {P:Program}{md:Region.Mode}{ops:Array Oper}{Q:Exit->Act->World->Prop}{S:World->Prop}{last:Nat}
theorem qEw{c:Code}{tmps:Array Value}{ds:List Deferred}{w:World}(J:Array Value->List Deferred->Act->World->Prop)(h1:c.wp P (qRD (J tmps ds) Q) ⟨tmps,ds⟩ w)(h2:∀a w,J tmps ds a w->Q .normal a w):c.wp P Q ⟨tmps,ds⟩ w:=by
 intro b k cs;obtain⟨e,a₁,w₁,hq,harr⟩:=h1 b k cs;refine⟨e,a₁,w₁,?_,harr⟩;cases e with
 |normal=>exact h2 _ _ hq
 |_=>exact hq
def qRW(f:Nat->Prop):List Nat->Prop
 |[]=>True
 |i::r=>f i/\qRW f r
theorem qRW.mem{f:Nat->Prop}:∀{l:List Nat},qRW f l->∀i∈l,f i
 |[],_,_,h=>by cases h
 |j::r,h,i,hi=>by
  rcases List.mem_cons.1 hi with rfl|hi
  ·exact h.1
  ·exact qRW.mem h.2 i hi
theorem qQG(rs:List Nat){fuel:Nat}{listed:Array Bool}{a:Act}{w:World}(hr:Region.ready md ops listed=rs)(hne:rs≠[])
 (h:qRW (fun i=>wpOp P ops Q i (fun a' w'=>S w'/\qBl P md ops Q S last fuel (listed.setIfInBounds i true) a' w') a w) rs):
 qBl P md ops Q S last (fuel+1) listed a w:=by
 refine⟨fun h0=>absurd (hr.symm.trans h0) hne,fun j hj=> ?_⟩;rw[hr]at hj;exact wpOp_mono (fun a' w' h'=>⟨fun _=>h'.1,h'.2⟩) (h.mem j hj)
theorem qEM(i:Nat){o:Oper}{fuel:Nat}{listed:Array Bool}{a:Act}{w:World}(ho:ops[i]? =some o)
 (h:∀K':Act->World->Prop,Shut (∀a w,S w->(S w->qBl P md ops Q S last fuel (listed.setIfInBounds i true) a w)->K' a w)->if Region.wanted o (yielded ops a.tmps)=true then Oper.wp P o a w K' Q else K' (a.put o.dst undef) w):
 wpOp P ops Q i (fun a' w'=>S w'/\qBl P md ops Q S last fuel (listed.setIfInBounds i true) a' w') a w:=
 wpOp_step ho (fun K' hK=>h K' (fun a w hS hW=>hK a w ⟨hS,hW hS⟩))
end
def Sz(k:Nat)(z:Int):Prop:=z.natAbs<2^k
theorem Sz.lim_{k:Nat}{z:Int}(e:Nat)(he:LIM=2^e)(h:Sz k z)(hk:k<=e):z.natAbs<LIM:=by
 rw[he];exact Nat.lt_of_lt_of_le h (Nat.pow_le_pow_right (by omega) hk)
theorem Sz.lim{k:Nat}{z:Int}(h:Sz k z)(hk:k<=16384):z.natAbs<LIM:=h.lim_ 16384 qRz hk
theorem Sz.mono{k l:Nat}{z:Int}(h:Sz k z)(hk:k<=l):Sz l z:=Nat.lt_of_lt_of_le h (Nat.pow_le_pow_right (by omega) hk)
theorem Sz.mul{k l:Nat}{x y:Int}(h:Sz k x)(h2:Sz l y):Sz (k+l) (x*y):=by
 unfold Sz at *;rw[Int.natAbs_mul,Nat.pow_add];exact Nat.mul_lt_mul'' h h2
theorem Sz.add{k:Nat}{x y:Int}(h:Sz k x)(h2:Sz k y):Sz (k+1) (x+y):=by
 unfold Sz at *;rw[Nat.pow_succ];omega
theorem Sz.sub{k:Nat}{x y:Int}(h:Sz k x)(h2:Sz k y):Sz (k+1) (x-y):=by
 unfold Sz at *;rw[Nat.pow_succ];omega
theorem Sz.neg{k:Nat}{x:Int}(h:Sz k x):Sz k (-x):=by
 unfold Sz at *;omega
theorem Sz.of_le{k:Nat}{x y:Int}(h:Sz k x)(h2:y.natAbs<=x.natAbs):Sz k y:=Nat.lt_of_le_of_lt h2 h
theorem Sz.zero(k:Nat):Sz k 0:=by unfold Sz;exact Nat.pow_pos (by omega)
theorem Sz.one{k:Nat}(h:0<k):Sz k 1:=by
 have:2^1<=2^k:=Nat.pow_le_pow_right (by omega) h;unfold Sz;omega
theorem Sz.div{k:Nat}{x y:Int}(h:Sz k x)(hy:y≠0):Sz (k+1) (x/y):=by
 unfold Sz at *;rw[Nat.pow_succ];have h1:=Int.natAbs_ediv x y;have h2:x.natAbs/y.natAbs<=x.natAbs:=Nat.div_le_self _ _;have h3:0<2^k:=Nat.pow_pos (by omega)
 split at h1<;>omega
theorem Sz.mod{k:Nat}{x y:Int}(h:Sz k y)(hy:y≠0):Sz k (x%y):=by
 unfold Sz at *;have h1:=Int.emod_nonneg x hy;have h2:=Int.emod_lt x hy;omega
attribute [irreducible] Sz
theorem qKD(x y:Int)(hy:y≠0):qOf x y=x/y/\(rOf x y:Int)=x%y:=by
 obtain⟨h1,h2⟩:=qQQ x y hy;have h3:=Int.emod_add_mul_ediv x y;rcases Int.lt_or_gt_of_ne hy with h|h
 ·have:=Int.ediv_emod_unique' (a:=x) (b:=y) (r:=(rOf x y:Int)) (q:=qOf x y) h
  obtain⟨a,b⟩:=this.2 ⟨by rw[Int.mul_comm];omega,by omega,by omega⟩;exact⟨a.symm,b.symm⟩
 ·have:=Int.ediv_emod_unique (a:=x) (b:=y) (r:=(rOf x y:Int)) (q:=qOf x y) h
  obtain⟨a,b⟩:=this.2 ⟨by rw[Int.mul_comm];omega,by omega,by omega⟩;exact⟨a.symm,b.symm⟩
def Bx(w:World)(b:Nat)(z:Int):Prop:=∃s a n c,Two w b 73 (.bool s) (.slice a n c)/\qAr w (.agg #[.bool s,.slice a n c]) z
section
variable {w w':World}{b g:Nat}{z:Int}
theorem Bx.lt(h:Bx w b z):b<w.heap.size:=by obtain⟨_,_,_,_,h,_⟩:=h;exact h.lt
theorem Bx.blw(h:Bx w b z)(hb:Below w.heap.size w w'):Bx w' b z:=by
 obtain⟨s,a,n,c,h1,h2⟩:=h;exact⟨s,a,n,c,h1.below hb h1.lt,h2.below hb⟩
instance:Mv w w' (Bx w b z) (Bx w' b z):=⟨fun hb h=>Bx.blw h hb⟩
theorem Two.noInt{t:TypeId}{x y:Value}(h:Two w b t x y)(hx:∀i,x≠ .int .u32 i)(hy:∀i,y≠ .int .u32 i):qAi w b:=by
 intro o i he;rw[cell_of_row w b o _ t (0,0) h]at he
 match o,he with
 |0,he=>simp at he;exact hx _ he
 |1,he=>simp at he;exact hy _ he
 |o+2,he=>simp at he
theorem Bx.noInt(h:Bx w b z):qAi w b:=by
 obtain⟨s,a,n,c,h1,h2⟩:=h;exact h1.noInt (fun _ h=>by cases h) (fun _ h=>by cases h)
theorem One.noInt{t:TypeId}{x:Value}(h:One w b t x)(hx:∀i,x≠ .int .u32 i):qAi w b:=by
 intro o i he;rw[cell_of_row w b o _ t (0,0) h]at he
 match o,he with
 |0,he=>simp at he;exact hx _ he
 |o+1,he=>simp at he
theorem qHW{w:World}{a:Addr}{u:Value}(h:w.cell? a=none):(w.setCell a u).cell? a=none:=by
 unfold World.cell? at h ⊢;simp only[World.setCell,Array.getElem?_modify,if_true];cases hh:w.heap[a.block]? with
 |none=>simp
 |some x=>
  rw[hh]at h;cases x with
  |cells c e f=>
   simp only[Option.map_some]
   split
   ·rfl
   ·next hs=>
    simp[hs]at h ⊢;exact h
  |_=>simp
theorem qAi.set(h:qAi w g)(g' o:Nat){u:Value}(hu:∀i,u≠ .int .u32 i):qAi (w.setCell ⟨g',o,none⟩ u) g:=by
 intro p x he;by_cases e:(⟨g,p,none⟩:Addr)=⟨g',o,none⟩
 ·have h2:=h p x
  rw[e]at he h2;rcases hc:w.cell? ⟨g',o,none⟩with _|y
  ·rw[qHW hc]at he
   cases he
  ·rw[World.cell?_setCell_same _ _ _ hc]at he
   injection he with he;exact hu _ he
 ·rw[World.cell?_setCell_other _ _ _ _ (fun h=>e h.symm)]at he
  exact h p x he
theorem qAi.below(h:qAi w g)(hb:Below w.heap.size w w')(hg:g<w.heap.size):qAi w' g:=by
 intro o x he;rw[hb.cell (p:=⟨g,o,none⟩) hg]at he;exact h o x he
def st2(w:World)(g o1 o2:Nat)(s:Bool)(a:Option Addr)(n c:Nat):World:=(w.setCell ⟨g,o1,none⟩ (.bool s)).setCell ⟨g,o2,none⟩ (.slice a n c)
variable {o1 o2:Nat}{s:Bool}{a:Option Addr}{n c:Nat}
theorem qAi.off(h:qAi w b):qAi (st2 w g o1 o2 s a n c) b:=(h.set g o1 (fun _ h=>by cases h)).set g o2 (fun _ h=>by cases h)
theorem qAr.off{v:Value}(h:qAr w v z)(hg:qAi w g):qAr (st2 w g o1 o2 s a n c) v z:=(h.far hg _ _).far (hg.set g o1 (fun _ h=>by cases h)) _ _
theorem Two.off{t:TypeId}{x y:Value}(h:Two w b t x y)(hne:b≠g):Two (st2 w g o1 o2 s a n c) b t x y:=
 (Below.heap_setCell _ ⟨g,o2,none⟩ _ b hne).trans ((Below.heap_setCell w ⟨g,o1,none⟩ _ b hne).trans h)
theorem One.off{t:TypeId}{x:Value}(h:One w b t x)(hne:b≠g):One (st2 w g o1 o2 s a n c) b t x:=
 (Below.heap_setCell _ ⟨g,o2,none⟩ _ b hne).trans ((Below.heap_setCell w ⟨g,o1,none⟩ _ b hne).trans h)
theorem qAf.off{t:TypeId}{cs:List Value}(h:qAf w b t cs)(hne:b≠g):qAf (st2 w g o1 o2 s a n c) b t cs:=
 (Below.heap_setCell _ ⟨g,o2,none⟩ _ b hne).trans ((Below.heap_setCell w ⟨g,o1,none⟩ _ b hne).trans h)
theorem Bx.off(h:Bx w b z)(hg:qAi w g)(hne:b≠g):Bx (st2 w g o1 o2 s a n c) b z:=by
 obtain⟨s,a,n,c,h1,h2⟩:=h;exact⟨s,a,n,c,h1.off hne,h2.off hg⟩
theorem qAC.off{zs:List Int}(h:qAC w b zs)(hg:qAi w g)(hne:b≠g):qAC (st2 w g o1 o2 s a n c) b zs:=
 (h.far hne hg _ _).far hne (hg.set g o1 (fun _ h=>by cases h)) _ _
theorem qN7{B:Nat}{w0:World}(h:Below B w0 w)(hg:B<=g):Below B w0 (st2 w g o1 o2 s a n c):=(h.setCell (p:=⟨g,o1,none⟩) hg _).setCell (p:=⟨g,o2,none⟩) hg _
theorem qAc.off{S:Nat->Prop}{w0:World}(h:qAc S w0 w)(hg:S g):qAc S w0 (st2 w g o1 o2 s a n c):=(h.set (p:=⟨g,o1,none⟩) hg _).set (p:=⟨g,o2,none⟩) hg _
theorem qOu:(st2 w g o1 o2 s a n c).heap.size=w.heap.size:=by simp[st2,World.setCell]
theorem Bx.put{y:Int}(h:Bx w b y)(hv:qAr w (.agg #[.bool s,.slice a n c]) z):Bx (st2 w b 0 1 s a n c) b z:=by
 have hn:=h.noInt;obtain⟨s',a',n',c',h1,h2⟩:=h;exact⟨s,a,n,c,h1.setB _ _,hv.off hn⟩
theorem Two.put1{t:TypeId}{x y:Value}(h:Two w b t x y):Two (st2 w b 0 1 s a n c) b t (.bool s) (.slice a n c):=h.setB _ _
theorem qAC.put'{zs:List Int}(h:qAC w g zs)(j:Nat)(hj:j<zs.length)(hv:qAr w (.agg #[.bool s,.slice a n c]) z):qAC (st2 w g (j*2) (j*2+1) s a n c) g (zs.set j z):=by
 obtain⟨vw,e,hm⟩:=hv;injection e with e;have e1:=congrArg (fun x=>x[0]?) e;have e2:=congrArg (fun x=>x[1]?) e;simp at e1 e2;subst e1 e2;exact h.put j hj ⟨_,rfl,hm⟩
theorem qAC.get{zs:List Int}(h:qAC w g zs)(j:Nat)(hj:j<zs.length):∃s a n c,w.cell? ⟨g,j*2,none⟩=some (.bool s)/\w.cell? ⟨g,j*2+1,none⟩=some (.slice a n c)/\qAr w (.agg #[.bool s,.slice a n c]) zs[j]:=by
 obtain⟨a,n,c,h1,h2,h3⟩:=h.at_ j hj;exact⟨_,a,n,c,h1,h2,h3⟩
theorem qAr.form4{v:Value}(h:qAr w v z):∃s a n c,v=.agg #[.bool s,.slice a n c]:=by
 obtain⟨a,n,c,rfl,_⟩:=h.form;exact⟨_,_,_,_,rfl⟩
theorem Bx.new{s:Bool}{a:Option Addr}{n c:Nat}(hv:qAr w (.agg #[.bool s,.slice a n c]) z):Bx (w.alloc (.cells #[.bool s,.slice a n c] 73)) w.heap.size z:=
 ⟨s,a,n,c,Two.new _ _ _ _,hv.below aR⟩
theorem Two.blw{t:TypeId}{x y:Value}(h:Two w b t x y)(hb:Below w.heap.size w w'):Two w' b t x y:=h.below hb h.lt
instance {t:TypeId} {x y:Value}:Mv w w' (Two w b t x y) (Two w' b t x y):=⟨fun hb h=>Two.blw h hb⟩
theorem qAr.blw{v:Value}(h:qAr w v z)(hb:Below w.heap.size w w'):qAr w' v z:=h.below hb
instance {v:Value}:Mv w w' (qAr w v z) (qAr w' v z):=⟨fun hb h=>qAr.blw h hb⟩
theorem qAC.blw{zs:List Int}(h:qAC w g zs)(hb:Below w.heap.size w w'):qAC w' g zs:=h.below hb
instance {zs:List Int}:Mv w w' (qAC w g zs) (qAC w' g zs):=⟨fun hb h=>qAC.blw h hb⟩
theorem One.blw{t:TypeId}{x:Value}(h:One w b t x)(hb:Below w.heap.size w w'):One w' b t x:=h.below hb h.lt
instance {t:TypeId} {x:Value}:Mv w w' (One w b t x) (One w' b t x):=⟨fun hb h=>One.blw h hb⟩
theorem qAf.blw{t:TypeId}{cs:List Value}(h:qAf w b t cs)(hb:Below w.heap.size w w'):qAf w' b t cs:=h.below hb h.lt
instance {t:TypeId} {cs:List Value}:Mv w w' (qAf w b t cs) (qAf w' b t cs):=⟨fun hb h=>qAf.blw h hb⟩
end
def W1(z:Int)(w:World)(e:Ending)(w':World):Prop:=
 ∃s a n c,e=.returned (.agg #[.bool s,.slice a n c])/\qAr w' (.agg #[.bool s,.slice a n c]) z/\Below w.heap.size w w'
theorem qPN.w1{z:Int}{w:World}{e:Ending}{w':World}(h:qPN z w e w'):W1 z w e w':=by
 obtain⟨a,n,c,h1,h2,h3⟩:=h;exact⟨_,a,n,c,h1,h2,h3⟩
section
variable {vx vy:Value}{x y:Int}{w:World}{k l:Nat}
theorem qBH(hx:qAr w vx x)(hy:qAr w vy y)(sx:Sz k x)(sy:Sz l y)(hk:k+l<=16384):Calls Tryz.prog 52 #[vx,vy] w (W1 (x*y) w):=
 (qLG vx vy x y w hx hy (sx.lim (by omega)) (sy.lim (by omega)) ((sx.mul sy).lim hk)).mono (fun _ _ h=>h.w1)
theorem qMS(hx:qAr w vx x)(hy:qAr w vy y)(sx:Sz k x)(sy:Sz k y)(hk:k<=16000):Calls Tryz.prog 185 #[vx,vy] w (W1 (x+y) w):=
 (qM9 vx vy x y w hx hy (sx.lim (by omega)) (sy.lim (by omega)) ((sx.add sy).lim (by omega))).mono (fun _ _ h=>h.w1)
theorem qEG(hx:qAr w vx x)(hy:qAr w vy y)(sx:Sz k x)(sy:Sz k y)(hk:k<=16000):Calls Tryz.prog 51 #[vx,vy] w (W1 (x-y) w):=
 (qLI vx vy x y w hx hy (sx.lim (by omega)) (sy.lim (by omega)) ((sx.sub sy).lim (by omega))).mono (fun _ _ h=>h.w1)
theorem qE3(hx:qAr w vx x)(hy:qAr w vy y)(sx:Sz k x)(sy:Sz l y)(hy0:y≠0)(hk:k<=16384)(hl:l<=16384):Calls Tryz.prog 182 #[vx,vy] w (W1 (x/y) w):=
 (qNa vx vy x y w hx hy (sx.lim hk) (sy.lim hl) hy0).mono (fun _ _ h=>by rw[(qKD x y hy0).1]at h;exact h.w1)
theorem qEe(hx:qAr w vx x)(hy:qAr w vy y)(sx:Sz k x)(sy:Sz l y)(hy0:y≠0)(hk:k<=16384)(hl:l<=16384):Calls Tryz.prog 183 #[vx,vy] w (W1 (x%y) w):=
 (qJR vx vy x y w hx hy (sx.lim hk) (sy.lim hl) hy0).mono (fun _ _ h=>by rw[(qKD x y hy0).2]at h;exact h.w1)
theorem qRv(hx:qAr w vx x)(sx:Sz k x)(hk:k<=16384):Calls Tryz.prog 62 #[vx] w (W1 (-x) w):=
 (qQj vx x w hx (sx.lim hk)).mono (fun _ _ ⟨v,e,h,hB⟩=>by obtain⟨s,a,n,c,rfl⟩:=h.form4;exact⟨s,a,n,c,e,h,hB⟩)
theorem qIR(z:Int)(h1: -9223372036854775808<=z)(h2:z<=9223372036854775807):Calls Tryz.prog 61 #[.int .i64 z] w (W1 z w):=
 (qHO z w h1 h2).mono (fun _ _ ⟨v,e,h,hB⟩=>by obtain⟨s,a,n,c,rfl⟩:=h.form4;exact⟨s,a,n,c,e,h,hB⟩)
theorem qAE(hx:qAr w vx x)(sx:Sz k x)(hk:k<=16384):Calls Tryz.prog 46 #[vx] w fun e w'=>e=.returned (.int .i64 (qAV x 0))/\Below w.heap.size w w':=qHm vx x w hx (sx.lim hk)
theorem qRK(hx:qAr w vx x)(hy:qAr w vy y)(sx:Sz k x)(sy:Sz l y)(hy0:y≠0)(hk:k<=16384)(hl:l<=16384):
 Calls Tryz.prog 50 #[vx,vy] w fun e w'=>∃s a n c s' a' n' c',e=.returned (.tuple #[.agg #[.bool s,.slice a n c],.agg #[.bool s',.slice a' n' c'],.int .i64 0])/\qAr w' (.agg #[.bool s,.slice a n c]) (x/y)/\qAr w' (.agg #[.bool s',.slice a' n' c']) (x%y)/\Below w.heap.size w w':=
 (qOk vx vy x y w hx hy hy0 (sx.lim hk) (sy.lim hl)).mono (fun e w' ⟨hB,vq,vr,he,hq,hr⟩=>by
  obtain⟨s,a,n,c,rfl⟩:=hq.form4;obtain⟨s',a',n',c',rfl⟩:=hr.form4;rw[(qKD x y hy0).1]at hq;rw[(qKD x y hy0).2]at hr;exact⟨s,a,n,c,s',a',n',c',he,hq,hr,hB⟩)
end
theorem qN2(x:Int):(qAV x 0 != 0)=decide (x≠0):=by
 unfold qAV;by_cases h1:x<0
 ·rw[if_pos h1];simp;omega
 ·rw[if_neg h1]
  by_cases h2:0<x
  ·rw[if_pos h2];simp;omega
  ·rw[if_neg h2];simp;omega
section
variable {w w' w0:World}{g o1 o2 b:Nat}{s:Bool}{a:Option Addr}{n c:Nat}{z:Int}
theorem qAr.offe{v:Value}(h:qAr w v z)(e:st2 w g o1 o2 s a n c=w')(hg:qAi w g):qAr w' v z:=e▸h.off hg
theorem Bx.offe(h:Bx w b z)(e:st2 w g o1 o2 s a n c=w')(hg:qAi w g)(hne:b≠g):Bx w' b z:=e▸h.off hg hne
theorem qAC.offe{zs:List Int}(h:qAC w b zs)(e:st2 w g o1 o2 s a n c=w')(hg:qAi w g)(hne:b≠g):qAC w' b zs:=e▸h.off hg hne
theorem Two.offe{t:TypeId}{x y:Value}(h:Two w b t x y)(e:st2 w g o1 o2 s a n c=w')(hne:b≠g):Two w' b t x y:=e▸h.off hne
theorem One.offe{t:TypeId}{x:Value}(h:One w b t x)(e:st2 w g o1 o2 s a n c=w')(hne:b≠g):One w' b t x:=e▸h.off hne
theorem qAf.offe{t:TypeId}{cs:List Value}(h:qAf w b t cs)(e:st2 w g o1 o2 s a n c=w')(hne:b≠g):qAf w' b t cs:=e▸h.off hne
end
theorem qAc.offs{S:Nat->Prop}{w0 w w':World}{g o1 o2:Nat}{s:Bool}{a:Option Addr}{n c:Nat}(h:qAc S w0 w)(e:(w.setCell ⟨g,o1,none⟩ (.bool s)).setCell ⟨g,o2,none⟩ (.slice a n c)=w')(hg:S g):qAc S w0 w':=by subst e;exact h.off hg
theorem bO{B:Nat}{w0 w w':World}{g o1 o2:Nat}{s:Bool}{a:Option Addr}{n c:Nat}(e:st2 w g o1 o2 s a n c=w')(h:Below B w0 w)(hg:B<=g):Below B w0 w':=by subst e;exact qN7 h hg
theorem qD4{z:Array Value}{n:Nat}{u:Value}(h:u∈Builtin.zeroCells z n)(hz:0<z.size):u∈z:=by
 unfold Builtin.zeroCells at h;obtain⟨i,hi,rfl⟩:=Array.mem_map.1 h;have:i%z.size<z.size:=Nat.mod_lt _ hz;rw[getElem!_pos z _ this];exact Array.getElem_mem this
theorem qJv{w:World}{ops:Array Oper}{rest:List Oper}{o:Oper}{a:Act}{Q:Exit->Act->World->Prop}(hgd:o.guard=none)(s x:Operand)
 (ho:o.op=.call { callee:=.builtin .append,args:=#[s,x],argTypes:=#[77,77] })
 (hs:a.eval s=.slice none 0 0)(g m c:Nat)(cs:List Value)(hx:a.eval x=.slice (some ⟨g,0,none⟩) m c)(hcs:cs.length=m*2)(hnews:∀j u,cs[j]? =some u->w.cell? ⟨g,j,none⟩=some u)
 (h0:0<m)(hm:m<=1000000)
 (h:∀(cap:Nat) (tl:List Value),m<=cap->cap<=9223372036854775807->(∀u∈tl,u=.bool false\/u=.slice none 0 0)->wpList Tryz.prog ops Q rest (a.put o.dst (.slice (some ⟨w.heap.size,0,none⟩) m cap)) (w.drew.alloc (.cells (cs++tl).toArray 73))):wpList Tryz.prog ops Q (o::rest) a w:=by
 have hE:qEv Tryz.prog 77 73 2 32:=qEv.mk (z:=.agg #[.bool false,.slice none 0 0]) Tryz.underlying77 (by kernel_rfl) rfl (by decide);have hz0:(Tryz.prog.info? 73).map (fun i=>(i.zero,i.size,i.bytes))=some (some (.agg #[.bool false,.slice none 0 0]),2,32):=by kernel_rfl
 obtain⟨i,hi,hz,hsize,hbyt⟩:=info_parts hz0;refine wpList_plain hgd fun K hK=> ?_;have hr:=run_append_nil (P:=Tryz.prog) w 77 o.type 73 i _ hE.1 hi hz ⟨g,0,none⟩ m c cs (by rw[hcs,hsize]) (fun j v hj=>by
  have hadd:(⟨g,0,none⟩:Addr).add j=⟨g,j,none⟩:=by unfold Addr.add;split<;>simp_all
  rw[hadd];exact hnews j v hj) h0 (by omega) (by rw[hbyt];omega)
 unfold Oper.wp execOp;simp only[ho,resolve,invoke,builtin,Sem.run_bind,Sem.run_pure,Result.andThen_ok,List.map_toArray,List.map_cons,List.map_nil,hs,hx,hr];have hcap:=grownCap_ge w m 0 73;have hcap2:=grownCap_le_maxLen w m 0 73 (by unfold maxLen;omega);have hh:=h (grownCap w m 0 73) (Builtin.zeroCells (Value.agg #[.bool false,.slice none 0 0]).cells (grownCap w m 0 73-m)).toList hcap (by unfold maxLen at hcap2;omega) (fun u hu=>by
  have h2:=qD4 (Array.mem_toList_iff.1 hu) (by simp[Value.cells]);simpa[Value.cells]using h2)
 have he:(cs++(Builtin.zeroCells (Value.agg #[.bool false,.slice none 0 0]).cells (grownCap w m 0 73-m)).toList).toArray=cs.toArray++Builtin.zeroCells (Value.agg #[.bool false,.slice none 0 0]).cells (grownCap w m 0 73-m):=by
  apply Array.ext';simp
 rw[he]at hh;exact hK _ _ hh
section
variable {S:Nat->Prop}{w w' w0:World}
theorem qAd.only{v:Value}{L:List Nat}(h:qAd .u32 w v L)(ho:qAc S w w')(hS:∀b,S b->qAi w b):qAd .u32 w' v L:=by
 obtain⟨a,cap,hv,h1,h2,hc⟩:=h;refine⟨a,cap,hv,h1,h2,fun h0=> ?_⟩;obtain⟨b,off,ha,hlt,hcc⟩:=hc h0;have hn:¬S b:=fun hs=>hS b hs _ _ (hcc 0 h0);exact⟨b,off,ha,Nat.lt_of_lt_of_le hlt ho.size,fun j hj=>(ho.cell (p:=⟨b,off+j,none⟩) hn hlt).trans (hcc j hj)⟩
theorem qAr.only{v:Value}{z:Int}(h:qAr w v z)(ho:qAc S w w')(hS:∀b,S b->qAi w b):qAr w' v z:=by
 obtain⟨vw,hv,hm⟩:=h;exact⟨vw,hv,qAd.only hm ho hS⟩
theorem Bx.only{b:Nat}{z:Int}(h:Bx w b z)(ho:qAc S w w')(hS:∀b,S b->qAi w b)(hn:¬S b):Bx w' b z:=by
 obtain⟨s,a,n,c,h1,h2⟩:=h;exact⟨s,a,n,c,(ho.block b h1.lt hn).trans h1,h2.only ho hS⟩
theorem WCs.only{cs:List Value}{zs:List Int}(h:WCs w cs zs)(ho:qAc S w w')(hS:∀b,S b->qAi w b):WCs w' cs zs:=by
 refine⟨h.1,h.2.1,fun j hj=> ?_⟩;obtain⟨a,n,c,h1,h2,h3⟩:=h.2.2 j hj;exact⟨a,n,c,h1,h2,h3.only ho hS⟩
theorem qAC.only{g:Nat}{zs:List Int}(h:qAC w g zs)(ho:qAc S w w')(hS:∀b,S b->qAi w b)(hn:¬S g):qAC w' g zs:=by
 obtain⟨cs,h1,h2⟩:=h;exact⟨cs,h1.only ho hn,h2.only ho hS⟩
theorem qAc.off'{g o1 o2:Nat}{s:Bool}{a:Option Addr}{n c:Nat}(h:qAc S w0 w)(hg:S g\/w0.heap.size<=g):qAc S w0 (st2 w g o1 o2 s a n c):=by
 refine⟨h.os,h.tape,h.output,by rw[qOu];exact h.size,fun k hk hn=> ?_⟩;have hne:k≠g:=by rintro rfl;rcases hg with h1|h1;exact hn h1;omega
 exact(Below.heap_setCell _ ⟨g,o2,none⟩ _ k hne).trans ((Below.heap_setCell w ⟨g,o1,none⟩ _ k hne).trans (h.block k hk hn))
theorem qAc.blw(h:qAc S w0 w)(hb:Below w.heap.size w w'):qAc S w0 w':=h.trans (qAc.of_below hb)
instance:Mv w w' (qAc S w0 w) (qAc S w0 w'):=⟨fun hb h=>qAc.blw h hb⟩
end
theorem qBn{x:Int}(h:x≠0):∃sg,qAV x 0=sg/\(sg != 0)=true/\(sg==0)=false:=by
 refine⟨_,rfl,?_,?_⟩
 ·rw[qN2];simpa using h
 ·have:=qN2 x
  have h2:(qAV x 0 != 0)=true:=by rw[this];simpa using h
  simpa using h2
theorem qC8{α:Type}{A B:List α}{j:Nat}(h:A.length=B.length)(hj:j<=B.length):(A.take j++B.drop j).length=B.length:=by simp;omega
theorem qOs{α:Type}{A B:List α}{j:Nat}(h:A.length=B.length)(hj:j<B.length):(A.take j++B.drop j)[j]'(by rw[qC8 h (by omega)];exact hj)=B[j]:=by
 rw[List.getElem_append_right (by simp;omega)];simp[h,Nat.min_eq_left (Nat.le_of_lt hj)]
theorem qCW{α:Type}{A B:List α}{j:Nat}(h:A.length=B.length)(hj:j<B.length):(A.take j++B.drop j).set j (A[j]'(by omega))=A.take (j+1)++B.drop (j+1):=by
 refine List.ext_getElem (by simp;omega) (fun k h1 h2=> ?_);rw[List.getElem_set]
 split
 ·next e=>
  subst e;rw[List.getElem_append_left (by simp;omega),List.getElem_take]
 ·next e=>
  rcases Nat.lt_or_ge k j with hk|hk
  ·rw[List.getElem_append_left (by simp;omega),List.getElem_append_left (by simp;omega),List.getElem_take,List.getElem_take]
  ·rw[List.getElem_append_right (by simp;omega),List.getElem_append_right (by simp;omega),List.getElem_drop,List.getElem_drop]
   have h3:(A.take j).length=j:=by simp;omega
   have h4:(A.take (j+1)).length=j+1:=by simp;omega
   congr 1
   omega
section
variable {w w' w0:World}{g o1 o2 b:Nat}{s:Bool}{a:Option Addr}{n c:Nat}{z:Int}
theorem qAc.offe{S:Nat->Prop}(h:qAc S w0 w)(e:st2 w g o1 o2 s a n c=w')(hg:S g\/w0.heap.size<=g):qAc S w0 w':=e▸h.off' hg
end
end Go.Proofs.YtkjhlkngihponaaGreatDoor
