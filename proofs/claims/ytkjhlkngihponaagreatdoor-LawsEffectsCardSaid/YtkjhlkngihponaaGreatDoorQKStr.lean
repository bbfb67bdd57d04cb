/- Texts as values: plain Lean. -/
import Derived.Test.YtkjhlkngihponaaGreatDoorQKWDivS
import Derived.Deep.RegionHeld3
set_option linter.unusedVariables false
set_option linter.unusedSimpArgs false
set_option maxHeartbeats 4000000
set_option maxRecDepth 100000
namespace Go.Proofs.YtkjhlkngihponaaGreatDoor
open Go.RowKit
theorem qPt(L:List Nat)(k c x:Nat)(h:k<L.length):val W2 (L.set k ((c+(x+L[k]))%W2))+(c+(x+L[k]))/W2*W2^(k+1)=val W2 L+(c+x)*W2^k:=by
 have:=qDc L k c x h;rw[Nat.add_comm x L[k]];exact this
structure qDj(A B:List Nat)(S k:Nat)(L:List Nat):Prop where
 len:L.length=S
 low:Low W2 L
 zero:∀j (h:j<L.length),k+B.length<=j->L[j]=0
 eq:val W2 L=val W2 (A.take k)*val W2 B
structure qDP(A B:List Nat)(S k j c:Nat)(x:Nat)(L:List Nat):Prop where
 len:L.length=S
 low:Low W2 L
 c1:c<W2
 zero:∀i (h:i<L.length),k+B.length<=i->L[i]=0
 eq:val W2 L+c*W2^(k+j)=val W2 (A.take k)*val W2 B+x*val W2 (B.take j)*W2^k
theorem qDj.start(A B:List Nat)(S:Nat):qDj A B S 0 (List.replicate S 0):=
 ⟨by simp,fun x hx=>by rw[(List.mem_replicate.1 hx).2];decide,fun j h _=>by simp,by rw[qCx W2 _ (fun x hx=>(List.mem_replicate.1 hx).2)];simp[val]⟩
theorem qDj.inner{A B:List Nat}{S k:Nat}{L:List Nat}(h:qDj A B S k L)(x:Nat):qDP A B S k 0 0 x L:=
 ⟨h.len,h.low,by decide,h.zero,by rw[h.eq];simp[val]⟩
theorem qDj.skip{A B:List Nat}{S k:Nat}{L:List Nat}(h:qDj A B S k L)(hk:k<A.length)(hx:A[k]=0):qDj A B S (k+1) L:=
 ⟨h.len,h.low,fun j hj hkj=>h.zero j hj (by omega),by rw[h.eq,qAj W2 A k hk,hx];simp⟩
theorem qDP.bound{A B:List Nat}{S k j c x:Nat}{L:List Nat}(h:qDP A B S k j c x L)(y:Nat)(hx:x<W2)(hy:y<W2)(i:Nat)(hi:i<L.length):c+(x*y+L[i])<=18446744073709551615:=by
 have h1:=qIB x y hx hy;have h2:=h.c1;have h3:L[i]<W2:=h.low _ (List.getElem_mem hi);unfold W2 at *;omega
theorem qDP.next{A B:List Nat}{S k j c x:Nat}{L:List Nat}(h:qDP A B S k j c x L)(hj:j<B.length)(hkj:k+j<L.length)(hB:Low W2 B)(hx:x<W2):
 qDP A B S k (j+1) ((c+(x*B[j]+L[k+j]))/W2) x (L.set (k+j) ((c+(x*B[j]+L[k+j]))%W2)):=by
 have hb:=h.bound B[j] hx (hB _ (List.getElem_mem hj)) (k+j) hkj;refine⟨by rw[List.length_set];exact h.len,qBe h.low _ _ (Nat.mod_lt _ (by decide)),?_,fun i hi hki=> ?_,?_⟩
 ·apply(Nat.div_lt_iff_lt_mul (show 0<W2 by decide)).2
  unfold W2 at *;omega
 ·rw[List.getElem_set_ne (by omega)]
  exact h.zero i (by rw[List.length_set]at hi;exact hi) (by omega)
 ·have e:=qPt L (k+j) c (x*B[j]) hkj
  rw[show k+(j+1)=k+j+1 by omega,e,qAj W2 B j hj];have h1:=h.eq;rw[Nat.pow_add]at h1 ⊢;generalize W2^k=p at *;generalize W2^j=q at *;generalize val W2 (B.take j)=v at *;generalize B[j]=y at *
  grind
theorem qDP.done{A B:List Nat}{S k c:Nat}{L:List Nat}(hk:k<A.length)(h:qDP A B S k B.length c A[k] L)(hkj:k+B.length<L.length):qDj A B S (k+1) (L.set (k+B.length) c):=by
 refine⟨by rw[List.length_set];exact h.len,qBe h.low _ _ h.c1,fun i hi hki=> ?_,?_⟩
 ·rw[List.getElem_set_ne (by omega)]
  exact h.zero i (by rw[List.length_set]at hi;exact hi) (by omega)
 ·have e:=qCu W2 L (k+B.length) c hkj
  rw[h.zero _ hkj (Nat.le_refl _)]at e;have h1:=h.eq;rw[List.take_of_length_le (Nat.le_refl _)]at h1;rw[qAj W2 A k hk];generalize W2^(k+B.length)=P at *;generalize W2^k=p at *;generalize val W2 B=v at *;generalize A[k]=y at *
  grind
theorem qJd(c x y l:Nat):((c+(x*y+l):Nat):Int)=(c:Int)+((x:Int)*(y:Int)+(l:Int)):=by rw[Int.natCast_add,Int.natCast_add,Int.natCast_mul]
theorem qLk(va vb:Value)(A B:List Nat)(w:World)(ha:qAd .u32 w va A)(hb:qAd .u32 w vb B)(hA:Low W2 A)(hB:Low W2 B)(hA0:0<A.length)(hB0:0<B.length)(hl1:A.length<=1048576)(hl2:B.length<=1048576):
 Calls Tryz.prog 155 #[va,vb] w fun e w'=>∃v,e=.returned v/\qAd .u32 w' v (qAm W2 (val W2 A*val W2 B))/\Below w.heap.size w w':=by
 obtain⟨i0,hi,hz0,hz1,hz2⟩:=info_parts qE6;have Hi:=hZ hi;have Hz0:=hZ hz0;have Hz1:=hZ hz1;have Hz2:=hZ hz2;clear hi hz0 hz1 hz2;obtain⟨xa,xcap,hvx,x1,x2,hxc⟩:=ha;obtain⟨ya,ycap,hvy,y1,y2,hyc⟩:=hb;obtain⟨xb,xoff,rfl,hxb,hxcc⟩:=hxc hA0;obtain⟨yb,yoff,rfl,hyb,hycc⟩:=hyc hB0;subst hvx hvy;have Hxcc:=hZ hxcc;have Hycc:=hZ hycc;have HlA:=hZ hA;have HlB:=hZ hB;clear hyc hxc hA hB hxcc hycc;obtain⟨N,hN⟩:=eX A.length;obtain⟨M,hM⟩:=eX B.length;have HN:=hZ hN;have HM:=hZ hM;rw[hN]at x1 hl1 hA0;rw[hM]at y1 hl2 hB0;rw[hN,hM];clear hN hM;have n0:(N==0)=false:=by simp;omega
 have n1:((N:Int)==0)=false:=by simp;omega
 have m0:(M==0)=false:=by simp;omega
 have m1:((M:Int)==0)=false:=by simp;omega
 go_enter Tryz.func155,Tryz.ntmps155
 go_wp2_with (at_make;refine qAD _ rfl _ _ 71 rfl 151 i0 .u32 Tryz.underlying71 Hi.o Hz0.o Hz1.o _ _ _ _ (N+M) rfl rfl (by omega) (by omega) (by rw[Hz2.o];omega) (by omega) ?_)
 intro w1 hblk hB1 hz1;clear n0 n1 m0 m1;obtain⟨g,hg⟩:=eX w.heap.size;have Hg:=hZ hg;rw[hg]at hblk hB1 hz1 hxb hyb ⊢;have Hblk1:=hZ hblk;have HB1:=hZ hB1;clear hg hblk hB1
 go_wp2_with fail
 have HI0:=hZ (qDj.start A B (N+M))
 go_loopw [29] (fun i wr=>∃(k:Nat) (L:List Nat),k<=N/\i=.int .i64 k/\Hid (qDj A B (N+M) k L)/\Hid (Blk wr g 151 .u32 L)/\Hid (Below g w wr)) (fun i _=>N-(intOf i).toNat)
 case atStart=>exact⟨0,_,by omega,rfl,HI0,Hblk1,HB1⟩
 case round=>
  obtain⟨k,L,hk,rfl,hI,hbl,hB⟩:=hrel;have hgw:=hbl.o.lt;by_cases hlt:k<N
  ·have hka:k<A.length:=by rw[HN.o];exact hlt
   have cx:=(hB.o.cell (p:=⟨xb,xoff+k,none⟩) hxb).trans (Hxcc.o k hka);have hxl:A[k]<4294967296:=HlA.o _ (List.getElem_mem hka);by_cases hx0:A[k]=0
   ·have Hs:=hZ (hI.o.skip hka hx0)
    rw[hx0]at cx;clear hx0 hxl
    go_wp2_with fail
    go_roundw
    case rel=>exact⟨k+1,L,by omega,by go_num,Hs,hbl,hB⟩
    case measure=>simp[intOf];omega
   ·have hxne:(((A[k]:Nat):Int)==0)=false:=by simp only[beq_eq_false_iff_ne,ne_eq];omega
    have HJ0:=hZ (hI.o.inner A[k]);obtain⟨x,hx⟩:=eX (A[k]);have Hx:=hZ hx;rw[hx]at cx hxl hxne HJ0;clear hx hx0
    go_wp2_with fail
    rw[show k+M+1-k=M+1 by omega];obtain⟨wo,rfl⟩:=eY wr
    go_loopw [9,48] (fun cv i wr=>∃(j c:Nat) (L:List Nat),j<=M/\c<4294967296/\cv=.int .u64 (c:Int)/\i=.int .i64 j/\Hid (qDP A B (N+M) k j c x L)/\Hid (Blk wr g 151 .u32 L)/\Hid (Below g w wr)) (fun _ i _=>M-(intOf i).toNat)
    case atStart=>exact⟨0,0,L,by omega,by omega,rfl,rfl,HJ0,hbl,hB⟩
    case round=>
     clear hI hbl hB HJ0 cx hgw;obtain⟨j,c,L2,hj,hc,rfl,rfl,hJ,hbl,hB⟩:=hrel;have hgw:=hbl.o.lt;by_cases hjl:j<M
     ·have hjb:j<B.length:=by rw[HM.o];exact hjl
      have hkj:k+j<L2.length:=by rw[hJ.o.len];omega
      have cy:=(hB.o.cell (p:=⟨yb,yoff+j,none⟩) hyb).trans (Hycc.o j hjb);have hyl:B[j]<4294967296:=HlB.o _ (List.getElem_mem hjb);have hbd:=hJ.o.bound B[j] hxl hyl (k+j) hkj;have Hnext:=hZ (hJ.o.next hjb hkj HlB.o hxl);have hmul:=qIB x B[j] hxl hyl;have cg:=hbl.o.cell (k+j) hkj;have fg:=hbl.o.frozen (k+j);have hlo:L2[k+j]<4294967296:=hJ.o.low _ (List.getElem_mem hkj);have hcn:(c+(x*B[j]+L2[k+j]))/W2<W2:=Hnext.o.c1;generalize B[j]=y at *;generalize L2[k+j]=s at *;have m1:(0:Int)<=(x:Int)*(y:Int):=by rw[<-Int.natCast_mul];omega
      have m2:(x:Int)*(y:Int)<=18446744065119617025:=by rw[<-Int.natCast_mul];omega
      have hjr:j<M+1:=by omega
      go_wp2_with fail
      go_roundw
      case rel=>
       have hr:(((c+(x*y+s))%W2:Nat):Int)=((c:Int)+((x:Int)*(y:Int)+(s:Int)))%4294967296:=by rw[qK9,qJd]
       have hq:(((c+(x*y+s))/W2:Nat):Int)=((c:Int)+((x:Int)*(y:Int)+(s:Int)))/4294967296:=by rw[qLa,qJd]
       rw[<-hr,<-hq];exact⟨j+1,_,_,by omega,hcn,rfl,by go_num,Hnext,hZ (hbl.o.set (k+j) _),hZ (hB.o.setCell (p:=⟨g,k+j,none⟩) (Nat.le_refl _) _)⟩
      case measure=>simp[intOf];omega
     ·obtain rfl:j=M:=by omega
      clear hjl;have hkj:k+j<L2.length:=by rw[hJ.o.len];omega
      have cg:=hbl.o.cell (k+j) hkj;have fg:=hbl.o.frozen (k+j);have Hdone:Hid (qDj A B (N+j) (k+1) (L2.set (k+j) c)):=hZ (by
       have hJ2:=hJ.o;rw[<-Hx.o,<-HM.o]at hJ2;have:=qDP.done hka hJ2 (by rw[HM.o];exact hkj);rw[HM.o]at this;exact this)
      have hjr:j<j+1:=by omega
      go_wp2_with fail
      go_roundw
      case rel=>exact⟨k+1,_,by omega,by go_num,Hdone,hZ (hbl.o.set (k+j) _),hZ (hB.o.setCell (p:=⟨g,k+j,none⟩) (Nat.le_refl _) _)⟩
      case measure=>simp[intOf];omega
  ·obtain rfl:k=N:=by omega
   clear hlt;have hlen2:=hI.o.len;have hv:val W2 L=val W2 A*val W2 B:=by
    have:=hI.o.eq;rw[List.take_of_length_le (by rw[HN.o];exact Nat.le_refl _)]at this;exact this
   have Htr:=hZ (qCI (.slice (some ⟨g,0,none⟩) (k+M) (k+M)) L wr (by
    have:=qAd.of_blk hbl.o (cap:=k+M) (by omega) (by omega);rw[hlen2]at this;exact this) hI.o.low (by omega))
   rw[hv]at Htr;clear hlen2 hv
   go_wp2_with (go_at_call 136;refine Htr.o.mono ?_;rintro e w6 ⟨v6,rfl,q1,rfl⟩;have Q1:=hZ q1;clear q1)
   go_ret;exact⟨_,rfl,Q1.o,by rw[Hg.o];exact hB.o⟩
theorem qLj(a:Option Addr)(cap:Nat)(_hc:cap<=9223372036854775807)(vb:Value)(w:World):
 Calls Tryz.prog 155 #[.slice a 0 cap,vb] w fun e w'=>e=.returned (.slice none 0 0)/\w=w':=by
 go_enter Tryz.func155,Tryz.ntmps155
 go_wp2
 go_ret;exact⟨rfl,rfl⟩
theorem qLi(a b:Option Addr)(n cap cap':Nat)(hn:0<n)(_hn2:n<=1048576)(_hc:cap<=9223372036854775807)(_hc':cap'<=9223372036854775807)(w:World):
 Calls Tryz.prog 155 #[.slice a n cap,.slice b 0 cap'] w fun e w'=>e=.returned (.slice none 0 0)/\w=w':=by
 have n0:(n==0)=false:=by simp;omega
 have n1:((n:Int)==0)=false:=by simp;omega
 go_enter Tryz.func155,Tryz.ntmps155
 go_wp2
 go_ret;exact⟨rfl,rfl⟩
theorem qMq(va vb:Value)(m n:Nat)(w:World)(ha:qAK w va m)(hb:qAK w vb n)(hl1:(qAm W2 m).length<=1048576)(hl2:(qAm W2 n).length<=1048576):
 Calls Tryz.prog 155 #[va,vb] w fun e w'=>∃v,e=.returned v/\qAK w' v (m*n)/\Below w.heap.size w w':=by
 by_cases hm:m=0
 ·subst hm
  obtain⟨a,cap,rfl,_,hc,_⟩:=ha;refine(qLj a cap hc vb w).mono ?_;rintro e w' ⟨rfl,rfl⟩;refine⟨_,rfl,?_,Below.refl _ _⟩;rw[Nat.zero_mul];exact qAd.nil none 0 (by omega)
 ·have hm1:0<(qAm W2 m).length:=List.length_pos_iff.2 (fun h=>hm ((qBB W2 m qAk).1 h))
  by_cases hn:n=0
  ·subst hn
   obtain⟨a,cap,rfl,_,hc,_⟩:=ha;obtain⟨b,cap',rfl,_,hc',_⟩:=hb;refine(qLi a b _ cap cap' hm1 hl1 hc hc' w).mono ?_;rintro e w' ⟨rfl,rfl⟩;refine⟨_,rfl,?_,Below.refl _ _⟩;rw[Nat.mul_zero];exact qAd.nil none 0 (by omega)
  ·have hn1:0<(qAm W2 n).length:=List.length_pos_iff.2 (fun h=>hn ((qBB W2 n qAk).1 h))
   have key:=qLk va vb _ _ w ha hb (qAv W2 qAk m) (qAv W2 qAk n) hm1 hn1 hl1 hl2;rw[qAu W2 qAk,qAu W2 qAk]at key;exact key
def LIM:Nat:=2^16384
theorem qKN:W2^512=LIM:=by decide +kernel
theorem qRz:LIM=2^16384:=by unfold LIM;with_reducible rfl
attribute [irreducible] LIM
theorem qA6(n:Nat):(qAm W2 n).length<=512 ↔ n<LIM:=by
 rw[<-qKN];constructor
 ·intro h
  rcases Nat.lt_or_ge n (W2^512)with h1|h1
  ·exact h1
  ·have:=qGf W2 qAk 512 n h1;omega
 ·exact qBh W2 qAk 512 n
def qAr(w:World)(v:Value)(z:Int):Prop:=∃vw,v=.agg #[.bool (decide (z<0)),vw]/\qAK w vw z.natAbs
theorem qAr.below{w w':World}{v:Value}{z:Int}(h:qAr w v z)(hb:Below w.heap.size w w'):qAr w' v z:=by
 obtain⟨vw,hv,hm⟩:=h;exact⟨vw,hv,hm.below (Nat.le_refl _) hb⟩
def qL5(w:World)(v:Value):Prop:=∀g o n c,v=.slice (some ⟨g,o,none⟩) n c->∃cs fz,w.heap[g]? =some (.cells cs 151 fz)
theorem qL5.below{w w':World}{v:Value}(h:qL5 w v)(hb:Below w.heap.size w w'):qL5 w' v:=fun g o n c e=>by
 obtain⟨cs,fz,h1⟩:=h g o n c e;exact⟨cs,fz,(hb.block g (Array.getElem?_eq_some_iff.1 h1).1).trans h1⟩
theorem qAr.below'{w w':World}{v:Value}{z:Int}{B:Nat}(h:qAr w v z)(hB:w.heap.size<=B)(hb:Below B w w'):qAr w' v z:=by
 obtain⟨vw,hv,hm⟩:=h;exact⟨vw,hv,hm.below hB hb⟩
theorem qAr.mk{w:World}{b:Bool}{vw:Value}{z:Int}(hb:decide (z<0)=b)(hm:qAK w vw z.natAbs):qAr w (.agg #[.bool b,vw]) z:=⟨vw,by rw[hb],hm⟩
theorem qAr.form{w:World}{v:Value}{z:Int}(h:qAr w v z):∃a n cap,v=.agg #[.bool (decide (z<0)),.slice a n cap]/\qAK w (.slice a n cap) z.natAbs:=by
 obtain⟨vw,hv,hm⟩:=h;have hm':=hm;obtain⟨a,cap,rfl,_⟩:=hm;exact⟨a,_,cap,hv,hm'⟩
def sgn(neg:Bool)(n:Nat):Int:=if neg then -(n:Int)else n
theorem qA5(neg:Bool)(n:Nat):(sgn neg n).natAbs=n:=by unfold sgn;cases neg<;>simp
theorem qP7(neg:Bool)(n:Nat):decide (sgn neg n<0)=(neg && decide (0<n)):=by
 unfold sgn;cases neg<;>simp
theorem qAX(neg:Bool)(vw:Value)(n:Nat)(w:World)(h:qAK w vw n):
 Calls Tryz.prog 116 #[.bool neg,vw] w fun e w'=>e=.returned (.agg #[.bool (decide (sgn neg n<0)),vw])/\Below w.heap.size w w':=by
 obtain⟨a,cap,rfl,h1,h2,hcc⟩:=h;clear hcc;have hpos:decide (0<(qAm W2 n).length)=decide (0<n):=by
  by_cases h0:n=0
  ·subst h0;rfl
  ·have:=List.length_pos_iff.2 (fun h=>h0 ((qBB W2 n qAk).1 h))
   simp only[this,decide_true,Nat.pos_of_ne_zero h0]
 rw[qP7];obtain⟨N,hN⟩:=eX ((qAm W2 n).length);rw[hN]at hpos h1 ⊢;clear hN;by_cases h0:0<N
 ·have hp:decide (0<n)=true:=by rw[<-hpos];simpa using h0
  rw[hp,Bool.and_true];clear hp hpos;cases neg
  all_goals
   go_enter Tryz.func116,Tryz.ntmps116
   go_wp2
   exact bodyPost_ret (by simp[results,Tryz.results116,go_sem]) rfl ⟨rfl,aR⟩
 ·obtain rfl:N=0:=by omega
  have hp:decide (0<n)=false:=by rw[<-hpos];rfl
  rw[hp,Bool.and_false];clear hp hpos;cases neg
  all_goals
   go_enter Tryz.func116,Tryz.ntmps116
   go_wp2
   exact bodyPost_ret (by simp[results,Tryz.results116,go_sem]) rfl ⟨rfl,aR⟩
def Two(w:World)(b:Nat)(t:TypeId)(x y:Value):Prop:=w.heap[b]? =some (.cells #[x,y] t (0,0))
section
variable {w w':World}{b:Nat}{t:TypeId}{x y:Value}
theorem Two.lt(h:Two w b t x y):b<w.heap.size:=by
 rcases Nat.lt_or_ge b w.heap.size with hlt|hge
 ·exact hlt
 ·unfold Two at h;rw[Array.getElem?_eq_none hge]at h;cases h
theorem Two.cell0(h:Two w b t x y):w.cell? ⟨b,0,none⟩=some x:=by rw[cell_of_row w b 0 _ t (0,0) h];rfl
theorem Two.cell1(h:Two w b t x y):w.cell? ⟨b,1,none⟩=some y:=by rw[cell_of_row w b 1 _ t (0,0) h];rfl
theorem Two.frozen(h:Two w b t x y)(i:Nat):w.frozen? ⟨b,i,none⟩=false:=by
 unfold Two at h;simp[World.frozen?,h]
theorem Two.below{B:Nat}(h:Two w b t x y)(hb:Below B w w')(hg:b<B):Two w' b t x y:=(hb.block b hg).trans h
theorem Two.new(w:World)(t:TypeId)(x y:Value):Two (w.alloc (.cells #[x,y] t)) w.heap.size t x y:=heap_alloc_new w _
theorem Two.alloc(h:Two w b t x y)(o:Obj):Two (w.alloc o) b t x y:=(Below.heap_alloc w o b h.lt).trans h
end
def qDk(z:Int)(w:World)(e:Ending)(w':World):Prop:=
 Below w.heap.size w w'/\((z.natAbs<LIM/\∃v,e=.returned (.tuple #[v,.int .i64 0])/\qAr w' v z)\/(LIM<=z.natAbs/\e=.returned (.tuple #[.agg #[.bool false,.slice none 0 0],.int .i64 4])))
theorem qFX(neg:Bool)(vw:Value)(n:Nat)(w:World)(h:qAK w vw n)(hlen:(qAm W2 n).length<=4194304):
 Calls Tryz.prog 154 #[.bool neg,vw] w (qDk (sgn neg n) w):=by
 have Hm:=hZ h;have hlim:=qA6 n;have hab:=qA5 neg n;obtain⟨a,cap,rfl,h1,h2,hcc⟩:=h;clear hcc;have Hl:=hZ (Classical.em (n<LIM));have Hab:=hZ hab;clear hab;by_cases hl:n<LIM
 ·have hle:=hlim.2 hl
  have Hl:=hZ hl;clear hlim hl;have Hs:=hZ (fun w' (hb:Below w.heap.size w w')=>qAX neg _ n w' (Hm.o.below (Nat.le_refl _) hb));have HBa:=hZ ((Below.refl w.heap.size w).alloc (Nat.le_refl _) (.cells #[.bool false,.slice none 0 0] 73));have HT:=hZ (Two.new w 73 (.bool false) (.slice none 0 0));generalize (qAm W2 n).length=N at *
  go_enter Tryz.func154,Tryz.ntmps154
  go_wp2_with fail
  refine(Hs.o _ HBa.o).mono ?_;rintro e w1 ⟨rfl,hB⟩;have hT1:=HT.o.below hB (by simp);have c0:=hT1.cell0;have c1:=hT1.cell1;have f0:=hT1.frozen 0;have f1:=hT1.frozen 1;have HB1:=hZ (HBa.o.trans (hB.mono (by simp)));clear hT1 hB
  go_wp2
  refine bodyPost_ret (v:=.tuple #[.agg #[.bool (decide (sgn neg n<0)),.slice a N cap],.int .i64 0]) (by simp[results,Tryz.results154,go_sem,c0,c1]) rfl ⟨(HB1.o.setCell (p:=⟨w.heap.size,0,none⟩) (Nat.le_refl _) _).setCell (p:=⟨w.heap.size,1,none⟩) (Nat.le_refl _) _,.inl ⟨by rw[Hab.o];exact Hl.o,_,rfl,_,rfl,?_⟩⟩;rw[Hab.o];exact Hm.o.below (Nat.le_refl _) ((HB1.o.setCell (p:=⟨w.heap.size,0,none⟩) (Nat.le_refl _) _).setCell (p:=⟨w.heap.size,1,none⟩) (Nat.le_refl _) _)
 ·have hgt:¬(qAm W2 n).length<=512:=fun h=>hl (hlim.1 h)
  have Hl:=hZ hl;clear hl hlim;generalize (qAm W2 n).length=N at *
  go_enter Tryz.func154,Tryz.ntmps154
  go_wp2
  refine bodyPost_ret (v:=.tuple #[.agg #[.bool false,.slice none 0 0],.int .i64 4]) (by simp[results,Tryz.results154,go_sem]) rfl ⟨aR,.inr ⟨by rw[Hab.o];exact Nat.le_of_not_lt Hl.o,rfl⟩⟩
theorem qDy(neg:Bool)(vw:Value)(n:Nat)(w:World)(h:qAK w vw n)(hn:n<LIM):
 Calls Tryz.prog 154 #[.bool neg,vw] w fun e w'=>∃a l cap,e=.returned (.tuple #[.agg #[.bool (decide (sgn neg n<0)),.slice a l cap],.int .i64 0])/\qAK w' (.slice a l cap) n/\Below w.heap.size w w':=by
 have hlen:=(qA6 n).2 hn;refine(qFX neg vw n w h (by omega)).mono ?_;rintro e w' ⟨hB,⟨_,v,rfl,hW⟩|⟨hl,rfl⟩⟩
 ·obtain⟨a,l,cap,rfl,hm⟩:=hW.form
  rw[qA5]at hm;exact⟨a,l,cap,rfl,hm,hB⟩
 ·rw[qA5]at hl;omega
theorem qCN(neg:Bool)(vw:Value)(n:Nat)(w:World)(h:qAK w vw n)(hn:LIM<=n)(hlen:(qAm W2 n).length<=4194304):
 Calls Tryz.prog 154 #[.bool neg,vw] w fun e w'=>e=.returned (.tuple #[.agg #[.bool false,.slice none 0 0],.int .i64 4])/\Below w.heap.size w w':=by
 refine(qFX neg vw n w h hlen).mono ?_;rintro e w' ⟨hB,⟨hl,v,rfl,hW⟩|⟨hl,rfl⟩⟩
 ·rw[qA5]at hl;omega
 ·exact⟨rfl,hB⟩
theorem qDN(w:World)(t:TypeId)(x1 x2 y1 y2 z1 z2:Value)(n:Nat)(hn:w.heap.size=n):∃W,((w.alloc (.cells #[x1,x2] t)).alloc (.cells #[y1,y2] t)).alloc (.cells #[z1,z2] t)=W/\
 Two W n t x1 x2/\Two W (n+1) t y1 y2/\Two W (n+1+1) t z1 z2/\Below n w W/\W.heap.size=n+1+1+1:=by
 subst hn;refine⟨_,rfl,((Two.new w t x1 x2).alloc _).alloc _,?_,?_,(((Below.refl w.heap.size w).alloc (Nat.le_refl _) _).alloc (by simp) _).alloc (by simp;omega) _,by simp⟩
 ·have:=(Two.new (w.alloc (.cells #[x1,x2] t)) t y1 y2).alloc (.cells #[z1,z2] t)
  rw[World.size_alloc]at this;exact this
 ·have:=Two.new ((w.alloc (.cells #[x1,x2] t)).alloc (.cells #[y1,y2] t)) t z1 z2
  rw[World.size_alloc,World.size_alloc]at this;exact this
def qCw(n:Nat)(x1 x2 y1 y2:Value)(w:World):Prop:=w.cell? ⟨n,0,none⟩=some x1/\w.cell? ⟨n,1,none⟩=some x2/\w.cell? ⟨n+1,0,none⟩=some y1/\w.cell? ⟨n+1,1,none⟩=some y2
theorem qCw.below{n:Nat}{x1 x2 y1 y2:Value}{w w':World}(h:qCw n x1 x2 y1 y2 w)(hb:Below w.heap.size w w')(hs:n+1+1+1<=w.heap.size):qCw n x1 x2 y1 y2 w'/\n+1+1+1<=w'.heap.size:=
 ⟨⟨(hb.cell (p:=⟨n,0,none⟩) (by show n<_;omega)).trans h.1,(hb.cell (p:=⟨n,1,none⟩) (by show n<_;omega)).trans h.2.1,(hb.cell (p:=⟨n+1,0,none⟩) (by show n+1<_;omega)).trans h.2.2.1,(hb.cell (p:=⟨n+1,1,none⟩) (by show n+1<_;omega)).trans h.2.2.2⟩,by have:=hb.size;omega⟩
theorem qCw.set2{n:Nat}{x1 x2 y1 y2:Value}{w:World}(h:qCw n x1 x2 y1 y2 w)(u1 u2:Value):qCw n x1 x2 y1 y2 ((w.setCell ⟨n+1+1,0,none⟩ u1).setCell ⟨n+1+1,1,none⟩ u2):=by
 have e:∀b o,b≠n+1+1->((w.setCell ⟨n+1+1,0,none⟩ u1).setCell ⟨n+1+1,1,none⟩ u2).cell? ⟨b,o,none⟩=w.cell? ⟨b,o,none⟩:=fun b o hb=>by
  rw[World.cell?_setCell_other _ _ _ _ (by intro e;injection e;omega),World.cell?_setCell_other _ _ _ _ (by intro e;injection e;omega)]
 exact⟨(e _ _ (by omega)).trans h.1,(e _ _ (by omega)).trans h.2.1,(e _ _ (by omega)).trans h.2.2.1,(e _ _ (by omega)).trans h.2.2.2⟩
theorem qAd.store_two{k:IntKind}{w:World}{v:Value}{L:List Nat}{g:Nat}{t:TypeId}{x y:Value}(h:qAd k w v L)(ht:Two w g t x y)(hx:∀k i,x≠ .int k i)(hy:∀k i,y≠ .int k i)(u1 u2:Value):
 qAd k ((w.setCell ⟨g,0,none⟩ u1).setCell ⟨g,1,none⟩ u2) v L:=by
 obtain⟨a,cap,hv,h1,h2,hc⟩:=h;refine⟨a,cap,hv,h1,h2,fun h0=> ?_⟩;obtain⟨b,off,ha,hlt,hcc⟩:=hc h0;have hne:b≠g:=by
  rintro rfl;have h3:=hcc 0 h0;rw[cell_of_row w b (off+0) _ t (0,0) ht]at h3
  match off,h3 with
  |0,h3=>simp at h3;exact hx _ _ h3
  |1,h3=>simp at h3;exact hy _ _ h3
  |o+2,h3=>simp at h3
 have hsz:((w.setCell ⟨g,0,none⟩ u1).setCell ⟨g,1,none⟩ u2).heap.size=w.heap.size:=by simp[World.setCell]
 refine⟨b,off,ha,by rw[hsz];exact hlt,fun j hj=> ?_⟩;rw[World.cell?_setCell_other _ _ _ _ (by intro e;injection e;omega),World.cell?_setCell_other _ _ _ _ (by intro e;injection e;omega)];exact hcc j hj
theorem qMx(x y:Int):sgn (decide (x<0) != decide (y<0)) (x.natAbs*y.natAbs)=x*y:=by
 unfold sgn;rcases Int.lt_or_le x 0 with hx|hx<;>rcases Int.lt_or_le y 0 with hy|hy
 all_goals
  obtain⟨a,ha⟩:=Int.eq_ofNat_of_zero_le (show(0:Int)<=x.natAbs by omega);simp[hx,hy,Int.not_lt.2]
 ·rw[show((x.natAbs:Nat):Int)= -x by omega,show((y.natAbs:Nat):Int)= -y by omega];grind
 ·rw[show((x.natAbs:Nat):Int)= -x by omega,show((y.natAbs:Nat):Int)=y by omega];grind
 ·rw[show((x.natAbs:Nat):Int)=x by omega,show((y.natAbs:Nat):Int)= -y by omega];grind
 ·rw[show((x.natAbs:Nat):Int)=x by omega,show((y.natAbs:Nat):Int)=y by omega]
theorem qIW(m n a b:Nat)(ha:(qAm W2 m).length<=a)(hb:(qAm W2 n).length<=b):(qAm W2 (m*n)).length<=a+b:=by
 apply qBh W2 qAk;rw[Nat.pow_add];have h1:=qBP W2 (by decide) _ (qAv W2 qAk m);have h2:=qBP W2 (by decide) _ (qAv W2 qAk n);rw[qAu W2 qAk]at h1 h2;exact Nat.mul_lt_mul'' (Nat.lt_of_lt_of_le h1 (Nat.pow_le_pow_right (by decide) ha)) (Nat.lt_of_lt_of_le h2 (Nat.pow_le_pow_right (by decide) hb))
theorem qM8(vx vy:Value)(x y:Int)(w:World)(hx:qAr w vx x)(hy:qAr w vy y)(hlx:x.natAbs<LIM)(hly:y.natAbs<LIM):
 Calls Tryz.prog 111 #[vx,vy] w (qDk (x*y) w):=by
 obtain⟨ax,nx,cx,rfl,hmx⟩:=hx.form;obtain⟨ay,ny,cy,rfl,hmy⟩:=hy.form;have hlx':=(qA6 _).2 hlx;have hly':=(qA6 _).2 hly;have HX:=hZ hmx;have HY:=hZ hmy;have Hsm:=hZ (qMx x y);have hprod:=qIW x.natAbs y.natAbs 512 512 hlx' hly';clear hx hy hmx hmy hlx hly;obtain⟨n,hn⟩:=eX w.heap.size;have Hn:=hZ hn;have Ht:=hZ (fun w' (hb:Below n w w')=>qMq (.slice ax nx cx) (.slice ay ny cy) x.natAbs y.natAbs w' (HX.o.below (Nat.le_of_eq hn) hb) (HY.o.below (Nat.le_of_eq hn) hb) (by omega) (by omega));have Hneg:=hZ (show decide (x*y<0)=decide (sgn (decide (x<0) != decide (y<0)) (x.natAbs*y.natAbs)<0) by rw[qMx]);have Habs:Hid ((x*y).natAbs=x.natAbs*y.natAbs):=hZ (Int.natAbs_mul x y);clear Hsm HX HY hlx' hly';obtain⟨W,hW,t1,t2,t3,hBW,hsW⟩:=qDN w 73 (.bool (decide (x<0))) (.slice ax nx cx) (.bool (decide (y<0))) (.slice ay ny cy) (.bool false) (.slice none 0 0) n hn;generalize decide (x<0)=sx at *;generalize decide (y<0)=sy at *;generalize x.natAbs*y.natAbs=p at *;have HBW:=hZ hBW;have T3:Hid (Two W.drew (n+1+1) 73 (.bool false) (.slice none 0 0)):=hZ t3;have HS0:Hid (qCw n (.bool sx) (.slice ax nx cx) (.bool sy) (.slice ay ny cy) W.drew):=hZ ⟨t1.cell0,t1.cell1,t2.cell0,t2.cell1⟩;have hs0:n+1+1+1<=W.drew.heap.size:=by show _<=W.heap.size;omega
 have d0:=t1.cell0;have d1:=t1.cell1;have d2:=t2.cell0;have d3:=t2.cell1;clear t1 t2 t3 hBW
 go_enter Tryz.func111,Tryz.ntmps111
 go_wp2_with fail
 clear hW;by_cases hp:p<LIM
 ·go_region_held3 (fun w'=>w'.cell? ⟨n,0,none⟩=some (.bool sx)/\w'.cell? ⟨n,1,none⟩=some (.slice ax nx cx)/\w'.cell? ⟨n+1,0,none⟩=some (.bool sy)/\w'.cell? ⟨n+1,1,none⟩=some (.slice ay ny cy))
   (first|(exact HS.o)|(exact qCw.set2 HS.o _ _)|go_keep)
   (first
    |(go_at_call 155;refine(Ht.o _ HBW.o.drew).mono ?_;rintro e w5 ⟨v5,rfl,hm5,hB5⟩;have Hm5:=hZ hm5;have HB5:=hZ hB5;have HS5:=hZ (HS0.o.below hB5 hs0);have s5:=HS5.o.2;have HS:=hZ HS5.o.1;clear hm5 hB5)
    |(go_at_call 154;refine(qDy _ _ p w5 Hm5.o hp).mono ?_;rintro e w6 ⟨a6,l6,c6,rfl,hm6,hB6⟩;have Hm6:=hZ hm6;clear hm6;have HB6:=hZ hB6;have HS6:=hZ (HS.o.below hB6 s5);clear HS;have s6:=HS6.o.2;have HS:=hZ HS6.o.1;have T6:=(T3.o.below HB5.o (by omega)).below hB6 (by omega);have g0:=T6.cell0;have g1:=T6.cell1;have g2:=T6.frozen 0;have g3:=T6.frozen 1;have T6:=hZ T6;clear hB6))
  go_wp2
  refine bodyPost_ret (v:=.tuple #[.agg #[.bool (decide (sgn (!sx==sy) p<0)),.slice a6 l6 c6],.int .i64 0]) (by simp[results,Tryz.results111,go_sem,g0,g1]) rfl ⟨?_,.inl ⟨by rw[Habs.o];exact hp,_,rfl,qAr.mk ?_ ?_⟩⟩
  ·rw[Hn.o]
   exact(((HBW.o.drew.trans (HB5.o.mono (by omega))).trans (HB6.o.mono (by omega))).setCell (p:=⟨n+1+1,0,none⟩) (by show n<=n+1+1;omega) _).setCell (p:=⟨n+1+1,1,none⟩) (by show n<=n+1+1;omega) _
  ·rw[Hneg.o];cases sx<;>cases sy<;>rfl
  ·rw[Habs.o]
   exact qAd.store_two Hm6.o T6.o (fun _ _ h=>by cases h) (fun _ _ h=>by cases h) _ _
 ·go_region_held3 (fun w'=>w'.cell? ⟨n,0,none⟩=some (.bool sx)/\w'.cell? ⟨n,1,none⟩=some (.slice ax nx cx)/\w'.cell? ⟨n+1,0,none⟩=some (.bool sy)/\w'.cell? ⟨n+1,1,none⟩=some (.slice ay ny cy))
   (first|(exact HS.o)|(exact qCw.set2 HS.o _ _)|go_keep)
   (first
    |(go_at_call 155;refine(Ht.o _ HBW.o.drew).mono ?_;rintro e w5 ⟨v5,rfl,hm5,hB5⟩;have Hm5:=hZ hm5;have HB5:=hZ hB5;have HS5:=hZ (HS0.o.below hB5 hs0);have s5:=HS5.o.2;have HS:=hZ HS5.o.1;clear hm5 hB5)
    |(go_at_call 154;refine(qCN _ _ p w5 Hm5.o (Nat.le_of_not_lt hp) (by omega)).mono ?_;rintro e w6 ⟨rfl,hB6⟩;have HB6:=hZ hB6;have HS6:=hZ (HS.o.below hB6 s5);clear HS;have s6:=HS6.o.2;have HS:=hZ HS6.o.1;have T6:=(T3.o.below HB5.o (by omega)).below hB6 (by omega);have g0:=T6.cell0;have g1:=T6.cell1;have g2:=T6.frozen 0;have g3:=T6.frozen 1;have T6:=hZ T6;clear hB6))
  go_wp2
  refine bodyPost_ret (v:=.tuple #[.agg #[.bool false,.slice none 0 0],.int .i64 4]) (by simp[results,Tryz.results111,go_sem,g0,g1]) rfl ⟨?_,.inr ⟨by rw[Habs.o];exact Nat.le_of_not_lt hp,rfl⟩⟩
  ·rw[Hn.o]
   exact(((HBW.o.drew.trans (HB5.o.mono (by omega))).trans (HB6.o.mono (by omega))).setCell (p:=⟨n+1+1,0,none⟩) (by show n<=n+1+1;omega) _).setCell (p:=⟨n+1+1,1,none⟩) (by show n<=n+1+1;omega) _
theorem qIX(m n a:Nat)(ha:(qAm W2 m).length<=a)(hb:(qAm W2 n).length<=a):(qAm W2 (m+n)).length<=a+1:=by
 apply qBh W2 qAk;have h1:=qBP W2 (by decide) _ (qAv W2 qAk m);have h2:=qBP W2 (by decide) _ (qAv W2 qAk n);rw[qAu W2 qAk]at h1 h2;have h3:=Nat.lt_of_lt_of_le h1 (Nat.pow_le_pow_right (by decide) ha);have h4:=Nat.lt_of_lt_of_le h2 (Nat.pow_le_pow_right (by decide) hb);rw[Nat.pow_succ];have:W2^a*2<=W2^a*W2:=Nat.mul_le_mul_left _ (by decide);omega
theorem qE2(x y:Int)(h:decide (x<0)=decide (y<0)):sgn (decide (x<0)) (x.natAbs+y.natAbs)=x+y:=by
 unfold sgn;by_cases hx:x<0
 ·have hy:y<0:=by simpa[hx]using h.symm
  simp[hx];omega
 ·have hy:¬y<0:=by simpa[hx]using h.symm
  simp[hx];omega
theorem qDp(x y:Int)(h:decide (x<0)≠decide (y<0))(hle:y.natAbs<=x.natAbs):sgn (decide (x<0)) (x.natAbs-y.natAbs)=x+y:=by
 unfold sgn;by_cases hx:x<0
 ·have hy:¬y<0:=fun hy=>h (by simp[hx,hy])
  simp[hx];omega
 ·have hy:y<0:=Classical.byContradiction fun hy=>h (by simp[hx,hy])
  simp[hx];omega
theorem qQX(m n:Nat):decide (0<=qAV (m:Int) (n:Int))=decide (n<=m):=by
 unfold qAV;by_cases h1:(m:Int)<n
 ·rw[if_pos h1];simp;omega
 ·rw[if_neg h1]
  by_cases h2:(n:Int)<m
  ·rw[if_pos h2];simp;omega
  ·rw[if_neg h2];simp;omega
theorem qKl(vx vy:Value)(x y:Int)(w:World)(hx:qAr w vx x)(hy:qAr w vy y)(hlx:x.natAbs<LIM)(hly:y.natAbs<LIM):
 Calls Tryz.prog 112 #[vx,vy] w (qDk (x+y) w):=by
 obtain⟨ax,nx,cx,rfl,hmx⟩:=hx.form;obtain⟨ay,ny,cy,rfl,hmy⟩:=hy.form;have hlx':=(qA6 _).2 hlx;have hly':=(qA6 _).2 hly;have HX:=hZ hmx;have HY:=hZ hmy;clear hx hy hmx hmy hlx hly;obtain⟨n,hn⟩:=eX w.heap.size;have Hn:=hZ hn;obtain⟨W,hW,t1,t2,t3,hBW,hsW⟩:=qDN w 73 (.bool (decide (x<0))) (.slice ax nx cx) (.bool (decide (y<0))) (.slice ay ny cy) (.bool false) (.slice none 0 0) n hn;by_cases hs:decide (x<0)=decide (y<0)
 ·have hprod:=qIX x.natAbs y.natAbs 512 hlx' hly'
  have Ht:=hZ (fun w' (hb:Below n w w')=>qKG (.slice ax nx cx) (.slice ay ny cy) x.natAbs y.natAbs w' (HX.o.below (Nat.le_of_eq hn) hb) (HY.o.below (Nat.le_of_eq hn) hb) (by omega) (by omega));have Hneg:=hZ (show decide (x+y<0)=decide (sgn (decide (x<0)) (x.natAbs+y.natAbs)<0) by rw[qE2 x y hs]);have Habs:Hid ((x+y).natAbs=x.natAbs+y.natAbs):=hZ (by rw[<-qE2 x y hs,qA5]);have hss:(decide (x<0)==decide (y<0))=true:=by rw[hs];simp
  clear HX HY hlx' hly' hs;generalize decide (x<0)=sx at *;generalize decide (y<0)=sy at *;generalize x.natAbs+y.natAbs=p at *;have HBW:=hZ hBW;have T3:Hid (Two W.drew (n+1+1) 73 (.bool false) (.slice none 0 0)):=hZ t3;have HS0:Hid (qCw n (.bool sx) (.slice ax nx cx) (.bool sy) (.slice ay ny cy) W.drew):=hZ ⟨t1.cell0,t1.cell1,t2.cell0,t2.cell1⟩;have hs0:n+1+1+1<=W.drew.heap.size:=by show _<=W.heap.size;omega
  have d0:=t1.cell0;have d1:=t1.cell1;have d2:=t2.cell0;have d3:=t2.cell1;clear t1 t2 t3 hBW
  go_enter Tryz.func112,Tryz.ntmps112
  go_wp2_with fail
  clear hW;by_cases hp:p<LIM
  ·go_region_held3 (fun w'=>w'.cell? ⟨n,0,none⟩=some (.bool sx)/\w'.cell? ⟨n,1,none⟩=some (.slice ax nx cx)/\w'.cell? ⟨n+1,0,none⟩=some (.bool sy)/\w'.cell? ⟨n+1,1,none⟩=some (.slice ay ny cy))
    (first|(exact HS.o)|(exact qCw.set2 HS.o _ _)|go_keep)
    (first
     |(go_at_call 114;refine(Ht.o _ HBW.o.drew).mono ?_;rintro e w5 ⟨v5,rfl,hm5,hB5⟩;have Hm5:=hZ hm5;have HB5:=hZ hB5;have HS5:=hZ (HS0.o.below hB5 hs0);have s5:=HS5.o.2;have HS:=hZ HS5.o.1;clear hm5 hB5)
     |(go_at_call 154;refine(qDy _ _ p w5 Hm5.o hp).mono ?_;rintro e w6 ⟨a6,l6,c6,rfl,hm6,hB6⟩;have Hm6:=hZ hm6;clear hm6;have HB6:=hZ hB6;have HS6:=hZ (HS.o.below hB6 s5);clear HS;have s6:=HS6.o.2;have HS:=hZ HS6.o.1;have T6:=(T3.o.below HB5.o (by omega)).below hB6 (by omega);have g0:=T6.cell0;have g1:=T6.cell1;have g2:=T6.frozen 0;have g3:=T6.frozen 1;have T6:=hZ T6;clear hB6))
   go_wp2
   refine bodyPost_ret (v:=.tuple #[.agg #[.bool (decide (sgn (sx) p<0)),.slice a6 l6 c6],.int .i64 0]) (by simp[results,Tryz.results112,go_sem,g0,g1]) rfl ⟨?_,.inl ⟨by rw[Habs.o];exact hp,_,rfl,qAr.mk ?_ ?_⟩⟩
   ·rw[Hn.o]
    exact(((HBW.o.drew.trans (HB5.o.mono (by omega))).trans (HB6.o.mono (by omega))).setCell (p:=⟨n+1+1,0,none⟩) (by show n<=n+1+1;omega) _).setCell (p:=⟨n+1+1,1,none⟩) (by show n<=n+1+1;omega) _
   ·exact Hneg.o
   ·rw[Habs.o]
    exact qAd.store_two Hm6.o T6.o (fun _ _ h=>by cases h) (fun _ _ h=>by cases h) _ _
  ·go_region_held3 (fun w'=>w'.cell? ⟨n,0,none⟩=some (.bool sx)/\w'.cell? ⟨n,1,none⟩=some (.slice ax nx cx)/\w'.cell? ⟨n+1,0,none⟩=some (.bool sy)/\w'.cell? ⟨n+1,1,none⟩=some (.slice ay ny cy))
    (first|(exact HS.o)|(exact qCw.set2 HS.o _ _)|go_keep)
    (first
     |(go_at_call 114;refine(Ht.o _ HBW.o.drew).mono ?_;rintro e w5 ⟨v5,rfl,hm5,hB5⟩;have Hm5:=hZ hm5;have HB5:=hZ hB5;have HS5:=hZ (HS0.o.below hB5 hs0);have s5:=HS5.o.2;have HS:=hZ HS5.o.1;clear hm5 hB5)
     |(go_at_call 154;refine(qCN _ _ p w5 Hm5.o (Nat.le_of_not_lt hp) (by omega)).mono ?_;rintro e w6 ⟨rfl,hB6⟩;have HB6:=hZ hB6;have HS6:=hZ (HS.o.below hB6 s5);clear HS;have s6:=HS6.o.2;have HS:=hZ HS6.o.1;have T6:=(T3.o.below HB5.o (by omega)).below hB6 (by omega);have g0:=T6.cell0;have g1:=T6.cell1;have g2:=T6.frozen 0;have g3:=T6.frozen 1;have T6:=hZ T6;clear hB6))
   go_wp2
   refine bodyPost_ret (v:=.tuple #[.agg #[.bool false,.slice none 0 0],.int .i64 4]) (by simp[results,Tryz.results112,go_sem,g0,g1]) rfl ⟨?_,.inr ⟨by rw[Habs.o];exact Nat.le_of_not_lt hp,rfl⟩⟩
   ·rw[Hn.o]
    exact(((HBW.o.drew.trans (HB5.o.mono (by omega))).trans (HB6.o.mono (by omega))).setCell (p:=⟨n+1+1,0,none⟩) (by show n<=n+1+1;omega) _).setCell (p:=⟨n+1+1,1,none⟩) (by show n<=n+1+1;omega) _
 ·have hss:(decide (x<0)==decide (y<0))=false:=by simpa using hs
  have Hcm:=hZ (fun w' (hb:Below n w w')=>qCi (.slice ax nx cx) (.slice ay ny cy) x.natAbs y.natAbs w' (HX.o.below (Nat.le_of_eq hn) hb) (HY.o.below (Nat.le_of_eq hn) hb) (by omega) (by omega));have hcg:=qQX x.natAbs y.natAbs;by_cases hle:y.natAbs<=x.natAbs
  ·have Ht:=hZ (fun w' (hb:Below n w w')=>qFT (.slice ax nx cx) (.slice ay ny cy) x.natAbs y.natAbs w' (HX.o.below (Nat.le_of_eq hn) hb) (HY.o.below (Nat.le_of_eq hn) hb) hle (by omega))
   have hprod:(qAm W2 (x.natAbs-y.natAbs)).length<=512:=Nat.le_trans (qBk W2 qAk _ _ (Nat.sub_le _ _)) hlx';have Hneg:=hZ (show decide (x+y<0)=decide (sgn (decide (x<0)) (x.natAbs-y.natAbs)<0) by rw[qDp x y hs hle]);have Habs:Hid ((x+y).natAbs=x.natAbs-y.natAbs):=hZ (by rw[<-qDp x y hs hle,qA5]);rw[decide_eq_true hle]at hcg;clear HX HY hlx' hly' hs hle;generalize decide (x<0)=sx at *;generalize decide (y<0)=sy at *;generalize x.natAbs-y.natAbs=p at *;generalize qAV (x.natAbs:Int) (y.natAbs:Int)=cm at *
   go_enter Tryz.func112,Tryz.ntmps112
   have d0:=t1.cell0;have d1:=t1.cell1;have d2:=t2.cell0;have d3:=t2.cell1
   go_wp2_with fail
   refine(Hcm.o W hBW).mono ?_;rintro e w2 ⟨rfl,d,hw2⟩;clear hW;have t1':Two w2 n 73 (.bool sx) (.slice ax nx cx):=by rw[hw2];exact t1
   have t2':Two w2 (n+1) 73 (.bool sy) (.slice ay ny cy):=by rw[hw2];exact t2
   have t3':Two w2 (n+1+1) 73 (.bool false) (.slice none 0 0):=by rw[hw2];exact t3
   have hBW2:Below n w w2:=by rw[hw2];exact⟨hBW.os,hBW.tape,hBW.output,hBW.size,hBW.block⟩
   have hsW2:w2.heap.size=n+1+1+1:=by rw[hw2];exact hsW
   clear t1 t2 t3 hBW hsW hw2 d0 d1 d2 d3;have d0:=t1'.cell0;have d1:=t1'.cell1;have d2:=t2'.cell0;have d3:=t2'.cell1;have HBW:=hZ hBW2;have T3:Hid (Two w2.drew (n+1+1) 73 (.bool false) (.slice none 0 0)):=hZ t3';have HS0:Hid (qCw n (.bool sx) (.slice ax nx cx) (.bool sy) (.slice ay ny cy) w2.drew):=hZ ⟨t1'.cell0,t1'.cell1,t2'.cell0,t2'.cell1⟩;have hs0:n+1+1+1<=w2.drew.heap.size:=by show _<=w2.heap.size;omega
   clear t1' t2' t3' hBW2
   go_wp2_with fail
   by_cases hp:p<LIM
   ·go_region_held3 (fun w'=>w'.cell? ⟨n,0,none⟩=some (.bool sx)/\w'.cell? ⟨n,1,none⟩=some (.slice ax nx cx)/\w'.cell? ⟨n+1,0,none⟩=some (.bool sy)/\w'.cell? ⟨n+1,1,none⟩=some (.slice ay ny cy))
     (first|(exact HS.o)|(exact qCw.set2 HS.o _ _)|go_keep)
     (first
      |(go_at_call 115;refine(Ht.o _ HBW.o.drew).mono ?_;rintro e w5 ⟨v5,rfl,hm5,hB5⟩;have Hm5:=hZ hm5;have HB5:=hZ hB5;have HS5:=hZ (HS0.o.below hB5 hs0);have s5:=HS5.o.2;have HS:=hZ HS5.o.1;clear hm5 hB5)
      |(go_at_call 154;refine(qDy _ _ p w5 Hm5.o hp).mono ?_;rintro e w6 ⟨a6,l6,c6,rfl,hm6,hB6⟩;have Hm6:=hZ hm6;clear hm6;have HB6:=hZ hB6;have HS6:=hZ (HS.o.below hB6 s5);clear HS;have s6:=HS6.o.2;have HS:=hZ HS6.o.1;have T6:=(T3.o.below HB5.o (by omega)).below hB6 (by omega);have g0:=T6.cell0;have g1:=T6.cell1;have g2:=T6.frozen 0;have g3:=T6.frozen 1;have T6:=hZ T6;clear hB6))
    go_wp2
    refine bodyPost_ret (v:=.tuple #[.agg #[.bool (decide (sgn (sx) p<0)),.slice a6 l6 c6],.int .i64 0]) (by simp[results,Tryz.results112,go_sem,g0,g1]) rfl ⟨?_,.inl ⟨by rw[Habs.o];exact hp,_,rfl,qAr.mk ?_ ?_⟩⟩
    ·rw[Hn.o]
     exact(((HBW.o.drew.trans (HB5.o.mono (by omega))).trans (HB6.o.mono (by omega))).setCell (p:=⟨n+1+1,0,none⟩) (by show n<=n+1+1;omega) _).setCell (p:=⟨n+1+1,1,none⟩) (by show n<=n+1+1;omega) _
    ·exact Hneg.o
    ·rw[Habs.o]
     exact qAd.store_two Hm6.o T6.o (fun _ _ h=>by cases h) (fun _ _ h=>by cases h) _ _
   ·go_region_held3 (fun w'=>w'.cell? ⟨n,0,none⟩=some (.bool sx)/\w'.cell? ⟨n,1,none⟩=some (.slice ax nx cx)/\w'.cell? ⟨n+1,0,none⟩=some (.bool sy)/\w'.cell? ⟨n+1,1,none⟩=some (.slice ay ny cy))
     (first|(exact HS.o)|(exact qCw.set2 HS.o _ _)|go_keep)
     (first
      |(go_at_call 115;refine(Ht.o _ HBW.o.drew).mono ?_;rintro e w5 ⟨v5,rfl,hm5,hB5⟩;have Hm5:=hZ hm5;have HB5:=hZ hB5;have HS5:=hZ (HS0.o.below hB5 hs0);have s5:=HS5.o.2;have HS:=hZ HS5.o.1;clear hm5 hB5)
      |(go_at_call 154;refine(qCN _ _ p w5 Hm5.o (Nat.le_of_not_lt hp) (by omega)).mono ?_;rintro e w6 ⟨rfl,hB6⟩;have HB6:=hZ hB6;have HS6:=hZ (HS.o.below hB6 s5);clear HS;have s6:=HS6.o.2;have HS:=hZ HS6.o.1;have T6:=(T3.o.below HB5.o (by omega)).below hB6 (by omega);have g0:=T6.cell0;have g1:=T6.cell1;have g2:=T6.frozen 0;have g3:=T6.frozen 1;have T6:=hZ T6;clear hB6))
    go_wp2
    refine bodyPost_ret (v:=.tuple #[.agg #[.bool false,.slice none 0 0],.int .i64 4]) (by simp[results,Tryz.results112,go_sem,g0,g1]) rfl ⟨?_,.inr ⟨by rw[Habs.o];exact Nat.le_of_not_lt hp,rfl⟩⟩
    ·rw[Hn.o]
     exact(((HBW.o.drew.trans (HB5.o.mono (by omega))).trans (HB6.o.mono (by omega))).setCell (p:=⟨n+1+1,0,none⟩) (by show n<=n+1+1;omega) _).setCell (p:=⟨n+1+1,1,none⟩) (by show n<=n+1+1;omega) _
  ·have Ht:=hZ (fun w' (hb:Below n w w')=>qFT (.slice ay ny cy) (.slice ax nx cx) y.natAbs x.natAbs w' (HY.o.below (Nat.le_of_eq hn) hb) (HX.o.below (Nat.le_of_eq hn) hb) (by omega) (by omega))
   have hprod:(qAm W2 (y.natAbs-x.natAbs)).length<=512:=Nat.le_trans (qBk W2 qAk _ _ (Nat.sub_le _ _)) hly';have Hneg:=hZ (show decide (x+y<0)=decide (sgn (decide (y<0)) (y.natAbs-x.natAbs)<0) by rw[qDp y x (Ne.symm hs) (by omega),Int.add_comm]);have Habs:Hid ((x+y).natAbs=y.natAbs-x.natAbs):=hZ (by rw[Int.add_comm,<-qDp y x (Ne.symm hs) (by omega),qA5]);rw[decide_eq_false hle]at hcg;clear HX HY hlx' hly' hs hle;generalize decide (x<0)=sx at *;generalize decide (y<0)=sy at *;generalize y.natAbs-x.natAbs=p at *;generalize qAV (x.natAbs:Int) (y.natAbs:Int)=cm at *
   go_enter Tryz.func112,Tryz.ntmps112
   have d0:=t1.cell0;have d1:=t1.cell1;have d2:=t2.cell0;have d3:=t2.cell1
   go_wp2_with fail
   refine(Hcm.o W hBW).mono ?_;rintro e w2 ⟨rfl,d,hw2⟩;clear hW;have t1':Two w2 n 73 (.bool sx) (.slice ax nx cx):=by rw[hw2];exact t1
   have t2':Two w2 (n+1) 73 (.bool sy) (.slice ay ny cy):=by rw[hw2];exact t2
   have t3':Two w2 (n+1+1) 73 (.bool false) (.slice none 0 0):=by rw[hw2];exact t3
   have hBW2:Below n w w2:=by rw[hw2];exact⟨hBW.os,hBW.tape,hBW.output,hBW.size,hBW.block⟩
   have hsW2:w2.heap.size=n+1+1+1:=by rw[hw2];exact hsW
   clear t1 t2 t3 hBW hsW hw2 d0 d1 d2 d3;have d0:=t1'.cell0;have d1:=t1'.cell1;have d2:=t2'.cell0;have d3:=t2'.cell1;have HBW:=hZ hBW2;have T3:Hid (Two w2.drew (n+1+1) 73 (.bool false) (.slice none 0 0)):=hZ t3';have HS0:Hid (qCw n (.bool sx) (.slice ax nx cx) (.bool sy) (.slice ay ny cy) w2.drew):=hZ ⟨t1'.cell0,t1'.cell1,t2'.cell0,t2'.cell1⟩;have hs0:n+1+1+1<=w2.drew.heap.size:=by show _<=w2.heap.size;omega
   clear t1' t2' t3' hBW2
   go_wp2_with fail
   by_cases hp:p<LIM
   ·go_region_held3 (fun w'=>w'.cell? ⟨n,0,none⟩=some (.bool sx)/\w'.cell? ⟨n,1,none⟩=some (.slice ax nx cx)/\w'.cell? ⟨n+1,0,none⟩=some (.bool sy)/\w'.cell? ⟨n+1,1,none⟩=some (.slice ay ny cy))
     (first|(exact HS.o)|(exact qCw.set2 HS.o _ _)|go_keep)
     (first
      |(go_at_call 115;refine(Ht.o _ HBW.o.drew).mono ?_;rintro e w5 ⟨v5,rfl,hm5,hB5⟩;have Hm5:=hZ hm5;have HB5:=hZ hB5;have HS5:=hZ (HS0.o.below hB5 hs0);have s5:=HS5.o.2;have HS:=hZ HS5.o.1;clear hm5 hB5)
      |(go_at_call 154;refine(qDy _ _ p w5 Hm5.o hp).mono ?_;rintro e w6 ⟨a6,l6,c6,rfl,hm6,hB6⟩;have Hm6:=hZ hm6;clear hm6;have HB6:=hZ hB6;have HS6:=hZ (HS.o.below hB6 s5);clear HS;have s6:=HS6.o.2;have HS:=hZ HS6.o.1;have T6:=(T3.o.below HB5.o (by omega)).below hB6 (by omega);have g0:=T6.cell0;have g1:=T6.cell1;have g2:=T6.frozen 0;have g3:=T6.frozen 1;have T6:=hZ T6;clear hB6))
    go_wp2
    refine bodyPost_ret (v:=.tuple #[.agg #[.bool (decide (sgn (sy) p<0)),.slice a6 l6 c6],.int .i64 0]) (by simp[results,Tryz.results112,go_sem,g0,g1]) rfl ⟨?_,.inl ⟨by rw[Habs.o];exact hp,_,rfl,qAr.mk ?_ ?_⟩⟩
    ·rw[Hn.o]
     exact(((HBW.o.drew.trans (HB5.o.mono (by omega))).trans (HB6.o.mono (by omega))).setCell (p:=⟨n+1+1,0,none⟩) (by show n<=n+1+1;omega) _).setCell (p:=⟨n+1+1,1,none⟩) (by show n<=n+1+1;omega) _
    ·exact Hneg.o
    ·rw[Habs.o]
     exact qAd.store_two Hm6.o T6.o (fun _ _ h=>by cases h) (fun _ _ h=>by cases h) _ _
   ·go_region_held3 (fun w'=>w'.cell? ⟨n,0,none⟩=some (.bool sx)/\w'.cell? ⟨n,1,none⟩=some (.slice ax nx cx)/\w'.cell? ⟨n+1,0,none⟩=some (.bool sy)/\w'.cell? ⟨n+1,1,none⟩=some (.slice ay ny cy))
     (first|(exact HS.o)|(exact qCw.set2 HS.o _ _)|go_keep)
     (first
      |(go_at_call 115;refine(Ht.o _ HBW.o.drew).mono ?_;rintro e w5 ⟨v5,rfl,hm5,hB5⟩;have Hm5:=hZ hm5;have HB5:=hZ hB5;have HS5:=hZ (HS0.o.below hB5 hs0);have s5:=HS5.o.2;have HS:=hZ HS5.o.1;clear hm5 hB5)
      |(go_at_call 154;refine(qCN _ _ p w5 Hm5.o (Nat.le_of_not_lt hp) (by omega)).mono ?_;rintro e w6 ⟨rfl,hB6⟩;have HB6:=hZ hB6;have HS6:=hZ (HS.o.below hB6 s5);clear HS;have s6:=HS6.o.2;have HS:=hZ HS6.o.1;have T6:=(T3.o.below HB5.o (by omega)).below hB6 (by omega);have g0:=T6.cell0;have g1:=T6.cell1;have g2:=T6.frozen 0;have g3:=T6.frozen 1;have T6:=hZ T6;clear hB6))
    go_wp2
    refine bodyPost_ret (v:=.tuple #[.agg #[.bool false,.slice none 0 0],.int .i64 4]) (by simp[results,Tryz.results112,go_sem,g0,g1]) rfl ⟨?_,.inr ⟨by rw[Habs.o];exact Nat.le_of_not_lt hp,rfl⟩⟩
    ·rw[Hn.o]
     exact(((HBW.o.drew.trans (HB5.o.mono (by omega))).trans (HB6.o.mono (by omega))).setCell (p:=⟨n+1+1,0,none⟩) (by show n<=n+1+1;omega) _).setCell (p:=⟨n+1+1,1,none⟩) (by show n<=n+1+1;omega) _
theorem qDk.ok{z:Int}{w w':World}{e:Ending}(h:qDk z w e w')(hz:z.natAbs<LIM):∃a l cap,e=.returned (.tuple #[.agg #[.bool (decide (z<0)),.slice a l cap],.int .i64 0])/\qAK w' (.slice a l cap) z.natAbs/\Below w.heap.size w w':=by
 obtain⟨hB,⟨_,v,rfl,hW⟩|⟨hl,rfl⟩⟩:=h
 ·obtain⟨a,l,cap,rfl,hm⟩:=hW.form
  exact⟨a,l,cap,rfl,hm,hB⟩
 ·omega
theorem qDk.big{z:Int}{w w':World}{e:Ending}(h:qDk z w e w')(hz:LIM<=z.natAbs):e=.returned (.tuple #[.agg #[.bool false,.slice none 0 0],.int .i64 4])/\Below w.heap.size w w':=by
 obtain⟨hB,⟨hl,v,rfl,hW⟩|⟨hl,rfl⟩⟩:=h
 ·omega
 ·exact⟨rfl,hB⟩
theorem qMw(y:Int):sgn (!decide (y<0)) y.natAbs= -y:=by
 unfold sgn;by_cases h:y<0
 ·simp[h];omega
 ·simp[h];omega
theorem qP3(vx vy:Value)(x y:Int)(w:World)(hx:qAr w vx x)(hy:qAr w vy y)(hlx:x.natAbs<LIM)(hly:y.natAbs<LIM):
 Calls Tryz.prog 117 #[vx,vy] w (qDk (x-y) w):=by
 have HX0:=hZ hx;obtain⟨ax,nx,cx,rfl,hmx⟩:=hx.form;obtain⟨ay,ny,cy,rfl,hmy⟩:=hy.form;have HY:=hZ hmy;have hly2:(-y).natAbs<LIM:=by rw[Int.natAbs_neg];exact hly
 clear hx hy hmx hmy;obtain⟨n,hn⟩:=eX w.heap.size;have Hn:=hZ hn;obtain⟨W,hW,t1,t2,t3,hBW,hsW⟩:=qDN w 73 (.bool (decide (x<0))) (.slice ax nx cx) (.bool (decide (y<0))) (.slice ay ny cy) (.bool false) (.slice none 0 0) n hn;have Hs1:=hZ (fun w' (hb:Below n w w')=>qAX (!decide (y<0)) (.slice ay ny cy) y.natAbs w' (HY.o.below (Nat.le_of_eq hn) hb));rw[qMw]at Hs1;have Ha:=hZ (fun w' (hb:Below n w w')=>qKl (.agg #[.bool (decide (x<0)),.slice ax nx cx]) (.agg #[.bool (decide (-y<0)),.slice ay ny cy]) x (-y) w' (HX0.o.below' (Nat.le_of_eq hn) hb) ⟨_,rfl,by rw[Int.natAbs_neg];exact HY.o.below (Nat.le_of_eq hn) hb⟩ hlx hly2);have hxy:x+ -y=x-y:=by omega
 rw[hxy]at Ha;clear HX0 HY hlx hly hly2 hxy;generalize decide (x<0)=sx at *;generalize decide (y<0)=sy at *;generalize decide (-y<0)=sz at *;have HBW:=hZ hBW;have T3:Hid (Two W.drew (n+1+1) 73 (.bool false) (.slice none 0 0)):=hZ t3;have HS0:Hid (qCw n (.bool sx) (.slice ax nx cx) (.bool sy) (.slice ay ny cy) W.drew):=hZ ⟨t1.cell0,t1.cell1,t2.cell0,t2.cell1⟩;have hs0:n+1+1+1<=W.drew.heap.size:=by show _<=W.heap.size;omega
 have d0:=t1.cell0;have d1:=t1.cell1;have d2:=t2.cell0;have d3:=t2.cell1;clear t1 t2 t3 hBW
 go_enter Tryz.func117,Tryz.ntmps117
 go_wp2_with fail
 clear hW;by_cases hp:(x-y).natAbs<LIM
 ·go_region_held3 (fun w'=>w'.cell? ⟨n,0,none⟩=some (.bool sx)/\w'.cell? ⟨n,1,none⟩=some (.slice ax nx cx)/\w'.cell? ⟨n+1,0,none⟩=some (.bool sy)/\w'.cell? ⟨n+1,1,none⟩=some (.slice ay ny cy))
   (first|(exact HS.o)|(exact qCw.set2 HS.o _ _)|go_keep)
   (first
    |(go_at_call 116;refine(Hs1.o _ HBW.o.drew).mono ?_;rintro e w5 ⟨rfl,hB5⟩;have HB5:=hZ hB5;have HS5:=hZ (HS0.o.below hB5 hs0);have s5:=HS5.o.2;have HS:=hZ HS5.o.1;have HBW5:=hZ (HBW.o.drew.trans (hB5.mono (by omega)));clear hB5)
    |(go_at_call 112;refine(Ha.o w5 HBW5.o).mono ?_;rintro e w6 hL;obtain⟨a6,l6,c6,rfl,hm6,hB6⟩:=hL.ok hp;have Hm6:=hZ hm6;clear hm6;have HB6:=hZ hB6;have HS6:=hZ (HS.o.below hB6 s5);clear HS;have s6:=HS6.o.2;have HS:=hZ HS6.o.1;have T6:=(T3.o.below HB5.o (by omega)).below hB6 (by omega);have g0:=T6.cell0;have g1:=T6.cell1;have g2:=T6.frozen 0;have g3:=T6.frozen 1;have T6:=hZ T6;clear hB6))
  go_wp2
  refine bodyPost_ret (v:=.tuple #[.agg #[.bool (decide (x-y<0)),.slice a6 l6 c6],.int .i64 0]) (by simp[results,Tryz.results117,go_sem,g0,g1]) rfl ⟨?_,.inl ⟨hp,_,rfl,qAr.mk rfl ?_⟩⟩
  ·rw[Hn.o]
   exact((HBW5.o.trans (HB6.o.mono (by omega))).setCell (p:=⟨n+1+1,0,none⟩) (by show n<=n+1+1;omega) _).setCell (p:=⟨n+1+1,1,none⟩) (by show n<=n+1+1;omega) _
  ·exact qAd.store_two Hm6.o T6.o (fun _ _ h=>by cases h) (fun _ _ h=>by cases h) _ _
 ·go_region_held3 (fun w'=>w'.cell? ⟨n,0,none⟩=some (.bool sx)/\w'.cell? ⟨n,1,none⟩=some (.slice ax nx cx)/\w'.cell? ⟨n+1,0,none⟩=some (.bool sy)/\w'.cell? ⟨n+1,1,none⟩=some (.slice ay ny cy))
   (first|(exact HS.o)|(exact qCw.set2 HS.o _ _)|go_keep)
   (first
    |(go_at_call 116;refine(Hs1.o _ HBW.o.drew).mono ?_;rintro e w5 ⟨rfl,hB5⟩;have HB5:=hZ hB5;have HS5:=hZ (HS0.o.below hB5 hs0);have s5:=HS5.o.2;have HS:=hZ HS5.o.1;have HBW5:=hZ (HBW.o.drew.trans (hB5.mono (by omega)));clear hB5)
    |(go_at_call 112;refine(Ha.o w5 HBW5.o).mono ?_;rintro e w6 hL;obtain⟨rfl,hB6⟩:=hL.big (Nat.le_of_not_lt hp);have HB6:=hZ hB6;have HS6:=hZ (HS.o.below hB6 s5);clear HS;have s6:=HS6.o.2;have HS:=hZ HS6.o.1;have T6:=(T3.o.below HB5.o (by omega)).below hB6 (by omega);have g0:=T6.cell0;have g1:=T6.cell1;have g2:=T6.frozen 0;have g3:=T6.frozen 1;have T6:=hZ T6;clear hB6))
  go_wp2
  refine bodyPost_ret (v:=.tuple #[.agg #[.bool false,.slice none 0 0],.int .i64 4]) (by simp[results,Tryz.results117,go_sem,g0,g1]) rfl ⟨?_,.inr ⟨Nat.le_of_not_lt hp,rfl⟩⟩;rw[Hn.o];exact((HBW5.o.trans (HB6.o.mono (by omega))).setCell (p:=⟨n+1+1,0,none⟩) (by show n<=n+1+1;omega) _).setCell (p:=⟨n+1+1,1,none⟩) (by show n<=n+1+1;omega) _
theorem qMn(m:Nat)(h:m<18446744073709551616):val W2 [m%W2,m/W2]=m/\Low W2 [m%W2,m/W2]:=by
 constructor
 ·show m%4294967296+4294967296*(m/4294967296+4294967296*0)=m
  omega
 ·intro x hx
  simp only[List.mem_cons,List.not_mem_nil,or_false]at hx;rcases hx with rfl|rfl
  ·exact Nat.mod_lt _ (by decide)
  ·exact(Nat.div_lt_iff_lt_mul (by decide)).2 (by unfold W2;omega)
theorem qL5.far2{w:World}{v:Value}{b:Nat}{t:TypeId}{x y:Value}(h:qL5 w v)(hT:Two w b t x y)(ht:t≠151)(u1 u2:Value):qL5 ((w.setCell ⟨b,0,none⟩ u1).setCell ⟨b,1,none⟩ u2) v:=fun g o n c e=>by
 obtain⟨cs,fz,h1⟩:=h g o n c e;have hgb:g≠b:=fun e9=>by subst e9;unfold Two at hT;rw[hT]at h1;injection h1 with h1;injection h1 with _ h1 _;exact ht h1
 refine⟨cs,fz,?_⟩;rw[Below.heap_setCell _ ⟨b,1,none⟩ u2 g hgb,Below.heap_setCell _ ⟨b,0,none⟩ u1 g hgb];exact h1
theorem qKu(w0:World)(m:Nat)(hm:m<18446744073709551616)(g:Nat)(hg:g=w0.heap.size):
 Calls Tryz.prog 136 #[.slice (some ⟨g,0,none⟩) 2 2] (w0.alloc (.cells #[.int .u32 ((m:Int)%4294967296),.int .u32 ((m:Int)/4294967296)] 151)) fun e w'=>
  ∃v',e=.returned v'/\qAK (w0.alloc (.cells #[.int .u32 ((m:Int)%4294967296),.int .u32 ((m:Int)/4294967296)] 151)) v' m/\(w0.alloc (.cells #[.int .u32 ((m:Int)%4294967296),.int .u32 ((m:Int)/4294967296)] 151))=w'/\∃n,v'=.slice (some ⟨g,0,none⟩) n 2:=by
 subst hg;have hb:Blk (w0.alloc (.cells #[.int .u32 ((m:Int)%4294967296),.int .u32 ((m:Int)/4294967296)] 151)) w0.heap.size 151 .u32 [m%W2,m/W2]:=by
  unfold Blk;rw[heap_alloc_new];simp only[List.map_cons,List.map_nil,iv,qK9,qLa]
 have h2:=qMn m hm;have:=qGS _ _ _ (qAd.of_blk hb (cap:=2) (by simp) (by omega)) h2.2 (by simp);rw[h2.1]at this;exact this.mono (fun _ _ ⟨v',h1,h2,h3,h4⟩=>⟨v',h1,h2,h3,h4 _ _ _ rfl⟩)
theorem qKR(z:Int)(w:World)(h1: -9223372036854775808<=z)(h2:z<=9223372036854775807):
 Calls Tryz.prog 61 #[.int .i64 z] w fun e w'=>∃b vw,e=.returned (.agg #[b,vw])/\qAr w' (.agg #[b,vw]) z/\qL5 w' vw/\Below w.heap.size w w':=by
 by_cases hz:z<0
 ·obtain⟨m,hm⟩:∃m:Nat,z= -(m:Int):=⟨z.natAbs,by omega⟩
  subst hm;have b1:IntKind.u64.wrap (-(m:Int))=18446744073709551616-(m:Int):=by rw[IntKind.wrap_u64];omega
  have b2:IntKind.u64.wrap (-(18446744073709551616-(m:Int)))=(m:Int):=by rw[IntKind.wrap_u64];omega
  go_enter Tryz.func61,Tryz.ntmps61
  go_wp2_with fail
  clear b1 b2;refine(qKu (w.alloc (.cells #[.bool false,.slice none 0 0] 73)) m (by omega) _ (by simp)).mono ?_;rintro e w1 ⟨v1,rfl,hm1,hw1,n1,rfl⟩;have T1:Two w1 w.heap.size 73 (.bool false) (.slice none 0 0):=by rw[<-hw1];exact(Two.new w 73 (.bool false) (.slice none 0 0)).alloc _
  have hB1:Below w.heap.size w w1:=by rw[<-hw1];exact((Below.refl _ w).alloc (Nat.le_refl _) _).alloc (by simp) _
  have Hty:Hid (qL5 w1 (.slice (some ⟨w.heap.size+1,0,none⟩) n1 2)):=hZ (fun g o n c e=>by injection e with e _ _;injection e with e;injection e with e _ _;subst e;rw[<-hw1];exact⟨_,_,by have h9:=heap_alloc_new (w.alloc (.cells #[.bool false,.slice none 0 0] 73)) (.cells #[.int .u32 ((m:Int)%4294967296),.int .u32 ((m:Int)/4294967296)] 151);simpa using h9⟩);rw[hw1]at hm1;clear hw1;obtain⟨a1,c1,hv1,hr1⟩:=hm1;rw[hv1]at Hty;injection hv1 with e1 e2 e3;subst e1 e2 e3;obtain⟨a1,ha1⟩:=eX (some (⟨w.heap.size+1,0,none⟩:Addr));rw[ha1]at Hty hr1 ⊢;clear ha1;obtain⟨c1,hc1⟩:∃a,2=a:=⟨_,rfl⟩;rw[hc1]at Hty hr1 ⊢;clear hc1;have Hm1:Hid (qAK w1 (.slice a1 (qAm W2 m).length c1) m):=hZ ⟨a1,c1,rfl,hr1⟩;have HT1:=hZ T1;have HB1:=hZ hB1;clear hr1 T1 hB1
  go_wp2_with fail
  refine(qAX true _ m w1 Hm1.o).mono ?_;rintro e w2 ⟨rfl,hB2⟩;have hT2:=HT1.o.below hB2 HT1.o.lt;have g0:=hT2.cell0;have g1:=hT2.cell1;have g2:=hT2.frozen 0;have g3:=hT2.frozen 1;have HT2:=hZ hT2;have Hm2:=hZ (qAd.below Hm1.o (Nat.le_refl _) hB2);have z1:=HB1.o.size;have HB2:=hZ (HB1.o.trans (hB2.mono z1));have Hty2:=hZ (Hty.o.below hB2);clear hT2 hB2 Hty
  go_wp2
  refine bodyPost_ret (v:=.agg #[.bool (decide (sgn true m<0)),.slice a1 (qAm W2 m).length c1]) (by simp[results,Tryz.results61,go_sem,g0,g1]) rfl ⟨_,_,rfl,qAr.mk ?_ ?_,?_,?_⟩
  ·rfl
  ·rw[show(-(m:Int):Int).natAbs=m by omega]
   exact qAd.store_two Hm2.o HT2.o (fun _ _ h=>by cases h) (fun _ _ h=>by cases h) _ _
  ·exact(Hty2.o.far2 HT2.o (by decide) _ _)
  ·exact(HB2.o.setCell (p:=⟨w.heap.size,0,none⟩) (Nat.le_refl _) _).setCell (p:=⟨w.heap.size,1,none⟩) (Nat.le_refl _) _
 ·obtain⟨m,hm⟩:∃m:Nat,z=(m:Int):=⟨z.natAbs,by omega⟩
  subst hm
  go_enter Tryz.func61,Tryz.ntmps61
  go_wp2_with fail
  refine(qKu (w.alloc (.cells #[.bool false,.slice none 0 0] 73)) m (by omega) _ (by simp)).mono ?_;rintro e w1 ⟨v1,rfl,hm1,hw1,n1,rfl⟩;have T1:Two w1 w.heap.size 73 (.bool false) (.slice none 0 0):=by rw[<-hw1];exact(Two.new w 73 (.bool false) (.slice none 0 0)).alloc _
  have hB1:Below w.heap.size w w1:=by rw[<-hw1];exact((Below.refl _ w).alloc (Nat.le_refl _) _).alloc (by simp) _
  have Hty:Hid (qL5 w1 (.slice (some ⟨w.heap.size+1,0,none⟩) n1 2)):=hZ (fun g o n c e=>by injection e with e _ _;injection e with e;injection e with e _ _;subst e;rw[<-hw1];exact⟨_,_,by have h9:=heap_alloc_new (w.alloc (.cells #[.bool false,.slice none 0 0] 73)) (.cells #[.int .u32 ((m:Int)%4294967296),.int .u32 ((m:Int)/4294967296)] 151);simpa using h9⟩);rw[hw1]at hm1;clear hw1;obtain⟨a1,c1,hv1,hr1⟩:=hm1;rw[hv1]at Hty;injection hv1 with e1 e2 e3;subst e1 e2 e3;obtain⟨a1,ha1⟩:=eX (some (⟨w.heap.size+1,0,none⟩:Addr));rw[ha1]at Hty hr1 ⊢;clear ha1;obtain⟨c1,hc1⟩:∃a,2=a:=⟨_,rfl⟩;rw[hc1]at Hty hr1 ⊢;clear hc1;have Hm1:Hid (qAK w1 (.slice a1 (qAm W2 m).length c1) m):=hZ ⟨a1,c1,rfl,hr1⟩;have HT1:=hZ T1;have HB1:=hZ hB1;clear hr1 T1 hB1
  go_wp2_with fail
  refine(qAX false _ m w1 Hm1.o).mono ?_;rintro e w2 ⟨rfl,hB2⟩;have hT2:=HT1.o.below hB2 HT1.o.lt;have g0:=hT2.cell0;have g1:=hT2.cell1;have g2:=hT2.frozen 0;have g3:=hT2.frozen 1;have HT2:=hZ hT2;have Hm2:=hZ (qAd.below Hm1.o (Nat.le_refl _) hB2);have z1:=HB1.o.size;have HB2:=hZ (HB1.o.trans (hB2.mono z1));have Hty2:=hZ (Hty.o.below hB2);clear hT2 hB2 Hty
  go_wp2
  refine bodyPost_ret (v:=.agg #[.bool (decide (sgn false m<0)),.slice a1 (qAm W2 m).length c1]) (by simp[results,Tryz.results61,go_sem,g0,g1]) rfl ⟨_,_,rfl,qAr.mk ?_ ?_,?_,?_⟩
  ·rfl
  ·rw[show((m:Int):Int).natAbs=m by omega]
   exact qAd.store_two Hm2.o HT2.o (fun _ _ h=>by cases h) (fun _ _ h=>by cases h) _ _
  ·exact(Hty2.o.far2 HT2.o (by decide) _ _)
  ·exact(HB2.o.setCell (p:=⟨w.heap.size,0,none⟩) (Nat.le_refl _) _).setCell (p:=⟨w.heap.size,1,none⟩) (Nat.le_refl _) _
theorem qHO(z:Int)(w:World)(h1: -9223372036854775808<=z)(h2:z<=9223372036854775807):
 Calls Tryz.prog 61 #[.int .i64 z] w fun e w'=>∃v,e=.returned v/\qAr w' v z/\Below w.heap.size w w':=
 (qKR z w h1 h2).mono (fun _ _ ⟨_,_,e,h1,_,h3⟩=>⟨_,e,h1,h3⟩)
theorem qPp(x y:Int)(hx:x<0)(hy:y<0):qAV (y.natAbs:Int) (x.natAbs:Int)=qAV x y:=by
 unfold qAV;rw[show((y.natAbs:Nat):Int)= -y by omega,show((x.natAbs:Nat):Int)= -x by omega];by_cases h1:x<y
 ·rw[if_pos h1,if_pos (by omega)]
 ·rw[if_neg h1,if_neg (by omega)]
  by_cases h2:y<x
  ·rw[if_pos h2,if_pos (by omega)]
  ·rw[if_neg h2,if_neg (by omega)]
theorem qPo(x y:Int)(hx:¬x<0)(hy:¬y<0):qAV (x.natAbs:Int) (y.natAbs:Int)=qAV x y:=by
 rw[show((y.natAbs:Nat):Int)=y by omega,show((x.natAbs:Nat):Int)=x by omega]
theorem qE9{B:Nat}{w w':World}(h:Below B w w')(d:Nat):Below B w (w'.drewN d):=⟨h.os,h.tape,h.output,h.size,h.block⟩
theorem qH9(vx vy:Value)(x y:Int)(w:World)(hx:qAr w vx x)(hy:qAr w vy y)(hlx:x.natAbs<LIM)(hly:y.natAbs<LIM):
 Calls Tryz.prog 110 #[vx,vy] w fun e w'=>e=.returned (.int .i64 (qAV x y))/\Below w.heap.size w w':=by
 obtain⟨ax,nx,cx,rfl,hmx⟩:=hx.form;obtain⟨ay,ny,cy,rfl,hmy⟩:=hy.form;have hlx':=(qA6 _).2 hlx;have hly':=(qA6 _).2 hly;have HX:=hZ hmx;have HY:=hZ hmy;clear hx hy hmx hmy hlx hly;have HB:=hZ (fun b1 b2=>((Below.refl w.heap.size w).alloc (Nat.le_refl _) (.cells #[.bool b1,.slice ax nx cx] 73)).alloc (by simp) (.cells #[.bool b2,.slice ay ny cy] 73));by_cases h1:x<0<;>by_cases h2:y<0
 ·have Hc:=hZ (fun w' (hb:Below w.heap.size w w')=>qCi (.slice ay ny cy) (.slice ax nx cx) y.natAbs x.natAbs w' (HY.o.below (Nat.le_refl _) hb) (HX.o.below (Nat.le_refl _) hb) (by omega) (by omega))
  rw[qPp x y h1 h2]at Hc;rw[decide_eq_true h1,decide_eq_true h2];clear h1 h2 HX HY
  go_enter Tryz.func110,Tryz.ntmps110
  go_wp2_with fail
  refine(Hc.o _ (HB.o true true)).mono ?_;rintro e w1 ⟨rfl,d,rfl⟩
  go_wp2
  go_ret;exact⟨rfl,qE9 (HB.o true true) d⟩
 ·have Hc:=hZ (qGm (show x<y by omega))
  rw[decide_eq_true h1,decide_eq_false h2];clear h1 h2 HX HY
  go_enter Tryz.func110,Tryz.ntmps110
  go_wp2
  go_ret;exact⟨by rw[Hc.o];rfl,HB.o true false⟩
 ·have Hc:=hZ (qER (show y<x by omega))
  rw[decide_eq_false h1,decide_eq_true h2];clear h1 h2 HX HY
  go_enter Tryz.func110,Tryz.ntmps110
  go_wp2
  go_ret;exact⟨by rw[Hc.o];rfl,HB.o false true⟩
 ·have Hc:=hZ (fun w' (hb:Below w.heap.size w w')=>qCi (.slice ax nx cx) (.slice ay ny cy) x.natAbs y.natAbs w' (HX.o.below (Nat.le_refl _) hb) (HY.o.below (Nat.le_refl _) hb) (by omega) (by omega))
  rw[qPo x y h1 h2]at Hc;rw[decide_eq_false h1,decide_eq_false h2];clear h1 h2 HX HY
  go_enter Tryz.func110,Tryz.ntmps110
  go_wp2_with fail
  refine(Hc.o _ (HB.o false false)).mono ?_;rintro e w1 ⟨rfl,d,rfl⟩
  go_wp2
  go_ret;exact⟨rfl,qE9 (HB.o false false) d⟩
theorem qAJ(w:World):qAr w (.agg #[.bool false,.slice none 0 0]) 0:=⟨_,rfl,qAd.nil none 0 (by omega)⟩
theorem qJH(a b:Nat)(h:0<a):0<a^b:=Nat.pow_pos h
theorem qQo:0<LIM:=qKN▸qJH W2 512 (by decide)
theorem qHm(vx:Value)(x:Int)(w:World)(hx:qAr w vx x)(hlx:x.natAbs<LIM):
 Calls Tryz.prog 46 #[vx] w fun e w'=>e=.returned (.int .i64 (qAV x 0))/\Below w.heap.size w w':=by
 have HX:=hZ hx;obtain⟨ax,nx,cx,rfl,_⟩:=hx.form;have HB:=hZ ((Below.refl w.heap.size w).alloc (Nat.le_refl _) (.cells #[.bool (decide (x<0)),.slice ax nx cx] 73));have Hc:=hZ (qH9 _ _ x 0 _ (HX.o.below' (Nat.le_refl _) HB.o) (qAJ _) hlx qQo);clear hlx hx;generalize decide (x<0)=sx at *
 go_enter Tryz.func46,Tryz.ntmps46
 go_wp2_with fail
 refine Hc.o.mono ?_;rintro e w1 ⟨rfl,hB1⟩;have HB1:=hZ (HB.o.trans (hB1.mono (by simp)));clear hB1
 go_wp2
 go_ret;exact⟨rfl,HB1.o⟩
theorem qN3(v:Value)(m:Nat)(w:World)(h:qAK w v m)(hlen:(qAm W2 m).length<=1048576):
 Calls Tryz.prog 137 #[v] w fun e w'=>∃a l c,e=.returned (.slice a l c)/\qAK w' (.slice a l c) m/\Below w.heap.size w w'/\qL5 w' (.slice a l c):=by
 refine(qEz v _ w h (by omega)).mono ?_;rintro e w' ⟨rfl,hb,hB⟩;exact⟨_,_,_,rfl,qAd.of_blk hb (Nat.le_refl _) (by omega),hB,fun g o n c e=>by injection e with e _ _;injection e with e;injection e with e _ _;subst e;exact⟨_,_,hb⟩⟩
theorem qI8(v:Value)(m:Nat)(w:World)(h:qAK w v m)(hlen:(qAm W2 m).length<=1048576):
 Calls Tryz.prog 137 #[v] w fun e w'=>∃a l c,e=.returned (.slice a l c)/\qAK w' (.slice a l c) m/\Below w.heap.size w w':=by
 refine(qEz v _ w h (by omega)).mono ?_;rintro e w' ⟨rfl,hb,hB⟩;exact⟨_,_,_,rfl,qAd.of_blk hb (Nat.le_refl _) (by omega),hB⟩
def qJo(n:Nat)(x1 x2:Value)(w:World):Prop:=w.cell? ⟨n,0,none⟩=some x1/\w.cell? ⟨n,1,none⟩=some x2
theorem qJo.below{n:Nat}{x1 x2:Value}{w w':World}(h:qJo n x1 x2 w)(hb:Below w.heap.size w w')(hs:n+1+1<=w.heap.size):qJo n x1 x2 w'/\n+1+1<=w'.heap.size:=
 ⟨⟨(hb.cell (p:=⟨n,0,none⟩) (by show n<_;omega)).trans h.1,(hb.cell (p:=⟨n,1,none⟩) (by show n<_;omega)).trans h.2⟩,by have:=hb.size;omega⟩
theorem qJo.set2{n:Nat}{x1 x2:Value}{w:World}(h:qJo n x1 x2 w)(u1 u2:Value):qJo n x1 x2 ((w.setCell ⟨n+1,0,none⟩ u1).setCell ⟨n+1,1,none⟩ u2):=by
 have e:∀b o,b≠n+1->((w.setCell ⟨n+1,0,none⟩ u1).setCell ⟨n+1,1,none⟩ u2).cell? ⟨b,o,none⟩=w.cell? ⟨b,o,none⟩:=fun b o hb=>by
  rw[World.cell?_setCell_other _ _ _ _ (by intro e;injection e;omega),World.cell?_setCell_other _ _ _ _ (by intro e;injection e;omega)]
 exact⟨(e _ _ (by omega)).trans h.1,(e _ _ (by omega)).trans h.2⟩
theorem qRT(w:World)(t:TypeId)(x1 x2 z1 z2:Value)(n:Nat)(hn:w.heap.size=n):∃W,(w.alloc (.cells #[x1,x2] t)).alloc (.cells #[z1,z2] t)=W/\
 Two W n t x1 x2/\Two W (n+1) t z1 z2/\Below n w W/\W.heap.size=n+1+1:=by
 subst hn;refine⟨_,rfl,(Two.new w t x1 x2).alloc _,?_,((Below.refl w.heap.size w).alloc (Nat.le_refl _) _).alloc (by simp) _,by simp⟩;have:=Two.new (w.alloc (.cells #[x1,x2] t)) t z1 z2;rw[World.size_alloc]at this;exact this
theorem qM5(vx:Value)(x:Int)(w:World)(hx:qAr w vx x)(hlx:x.natAbs<LIM):
 Calls Tryz.prog 62 #[vx] w fun e w'=>∃b vw,e=.returned (.agg #[b,vw])/\qAr w' (.agg #[b,vw]) (-x)/\qL5 w' vw/\Below w.heap.size w w':=by
 obtain⟨ax,nx,cx,rfl,hmx⟩:=hx.form;have hlx':=(qA6 _).2 hlx;have HX:=hZ hmx;clear hx hmx hlx;obtain⟨n,hn⟩:=eX w.heap.size;have Hn:=hZ hn;obtain⟨W,hW,t1,t2,hBW,hsW⟩:=qRT w 73 (.bool (decide (x<0))) (.slice ax nx cx) (.bool false) (.slice none 0 0) n hn;have Hcl:=hZ (fun w' (hb:Below n w w')=>qN3 (.slice ax nx cx) x.natAbs w' (HX.o.below (Nat.le_of_eq hn) hb) (by omega));have Hsg:=hZ (fun vw w' (hm:qAK w' vw x.natAbs)=>qAX (!decide (x<0)) vw x.natAbs w' hm);rw[qMw]at Hsg;clear HX;generalize decide (x<0)=sx at *;have HBW:=hZ hBW;have T2:Hid (Two W.drew (n+1) 73 (.bool false) (.slice none 0 0)):=hZ t2;have HS0:Hid (qJo n (.bool sx) (.slice ax nx cx) W.drew):=hZ ⟨t1.cell0,t1.cell1⟩;have hs0:n+1+1<=W.drew.heap.size:=by show _<=W.heap.size;omega
 have d0:=t1.cell0;have d1:=t1.cell1;clear t1 t2 hBW
 go_enter Tryz.func62,Tryz.ntmps62
 go_wp2_with fail
 clear hW
 go_region_held3 (fun w'=>w'.cell? ⟨n,0,none⟩=some (.bool sx)/\w'.cell? ⟨n,1,none⟩=some (.slice ax nx cx))
  (first|(exact HS.o)|(exact qJo.set2 HS.o _ _)|go_keep)
  (first
   |(go_at_call 137;refine(Hcl.o _ HBW.o.drew).mono ?_;rintro e w5 ⟨a5,l5,c5,rfl,hm5,hB5,ht5⟩;have Ht5:=hZ ht5;clear ht5;have Hm5:=hZ hm5;have HB5:=hZ hB5;have HS5:=hZ (HS0.o.below hB5 hs0);have s5:=HS5.o.2;have HS:=hZ HS5.o.1;have HBW5:=hZ (HBW.o.drew.trans (hB5.mono (by omega)));clear hB5 hm5)
   |(go_at_call 116;refine(Hsg.o _ w5 Hm5.o).mono ?_;rintro e w6 ⟨rfl,hB6⟩;have Hm6:=hZ (qAd.below Hm5.o (Nat.le_refl _) hB6);have HB6:=hZ hB6;have Ht6:=hZ (Ht5.o.below hB6);have HS6:=hZ (HS.o.below hB6 s5);clear HS;have s6:=HS6.o.2;have HS:=hZ HS6.o.1;have T6:=(T2.o.below HB5.o (by omega)).below hB6 (by omega);have g0:=T6.cell0;have g1:=T6.cell1;have g2:=T6.frozen 0;have g3:=T6.frozen 1;have T6:=hZ T6;clear hB6))
 go_wp2
 refine bodyPost_ret (v:=.agg #[.bool (decide (-x<0)),.slice a5 l5 c5]) (by simp[results,Tryz.results62,go_sem,g0,g1]) rfl ⟨_,_,rfl,qAr.mk rfl ?_,Ht6.o.far2 T6.o (by decide) _ _,?_⟩
 ·rw[Int.natAbs_neg]
  exact qAd.store_two Hm6.o T6.o (fun _ _ h=>by cases h) (fun _ _ h=>by cases h) _ _
 ·rw[Hn.o]
  exact((HBW5.o.trans (HB6.o.mono (by omega))).setCell (p:=⟨n+1,0,none⟩) (by show n<=n+1;omega) _).setCell (p:=⟨n+1,1,none⟩) (by show n<=n+1;omega) _
theorem qQj(vx:Value)(x:Int)(w:World)(hx:qAr w vx x)(hlx:x.natAbs<LIM):
 Calls Tryz.prog 62 #[vx] w fun e w'=>∃v,e=.returned v/\qAr w' v (-x)/\Below w.heap.size w w':=
 (qM5 vx x w hx hlx).mono (fun _ _ ⟨_,_,e,h1,_,h3⟩=>⟨_,e,h1,h3⟩)
def qCn(z:Int):Value:=if -9223372036854775808<=z/\z<=9223372036854775807 then .tuple #[.int .i64 z,.bool true]else .tuple #[.int .i64 0,.bool false]
theorem qJJ(y:Nat)(hy:y<4294967296):bits BinOp.or IntKind.u64 0 (y:Int)=(y:Int):=by
 have h:=u64_or_nat 0 y (by omega) (by omega);rw[Nat.zero_or]at h;exact h
theorem qJK(x y:Nat)(hx:x<4294967296)(hy:y<4294967296):bits BinOp.or IntKind.u64 (x:Int) ((y:Int)*4294967296)=((x+y*4294967296:Nat):Int):=by
 have h:=u64_or_nat x (y*4294967296) (by omega) (by omega);have e:(((y*4294967296:Nat)):Int)=(y:Int)*4294967296:=by omega
 rw[e]at h;rw[h];have h2:x|||y*2^32=y*2^32+x:=by rw[Nat.or_comm,Nat.mul_comm,<-Nat.two_pow_add_eq_or_of_lt hx]
 have h3:x|||y*4294967296=x+y*4294967296:=by rw[Nat.add_comm];exact h2
 rw[h3]
theorem qD8(vx:Value)(z:Int)(w:World)(hx:qAr w vx z)(hlx:z.natAbs<LIM):
 Calls Tryz.prog 57 #[vx] w fun e w'=>e=.returned (qCn z)/\Below w.heap.size w w':=by
 obtain⟨ax,nx,cx,rfl,hmx⟩:=hx.form;have hlen:=(qA6 _).2 hlx;obtain⟨a',c',hv,q1,q2,hc⟩:=hmx;injection hv with e1 e2 e3;subst e1 e2 e3;have Hc:=hZ hc;have Hlow:=hZ (qAv W2 qAk z.natAbs);have Hval:=hZ (qAu W2 qAk z.natAbs);clear hx hc hlx;have HB:=hZ (fun b1 n1=>(Below.refl w.heap.size w).alloc (Nat.le_refl _) (.cells #[.bool b1,.slice ax n1 cx] 73));obtain⟨A,hA⟩:=eX (qAm W2 z.natAbs);have HA:=hZ hA;rw[hA]at Hc Hlow Hval hlen q1 ⊢;clear hA;obtain⟨N,hN⟩:=eX A.length;have HN:=hZ hN;rw[hN]at hlen q1 ⊢;clear hN;by_cases h2:2<N
 ·have Hbig:Hid (qCn z=.tuple #[.int .i64 0,.bool false]):=hZ (by
   have h3:W2^2<=z.natAbs:=by
    rcases Nat.lt_or_ge z.natAbs (W2^2)with h|h
    ·have:=qBh W2 qAk 2 z.natAbs h
     rw[HA.o,HN.o]at this;omega
    ·exact h
   have h4:W2^2=18446744073709551616:=rfl;unfold qCn;rw[if_neg (by omega)])
  go_enter Tryz.func57,Tryz.ntmps57
  go_wp2
  go_ret2
  exact⟨by rw[Hbig.o];rfl,HB.o _ _⟩
 ·go_enter Tryz.func57,Tryz.ntmps57
  go_wp2_with fail
  go_loopw [4,14] (fun sv i wr=>∃(k s:Nat),k<=N/\i=.int .i64 k/\sv=.int .u64 (s:Int)/\Hid (s=val W2 (A.take k))/\Hid (w.alloc (.cells #[.bool (decide (z<0)),.slice ax N cx] 73)=wr)) (fun _ i _=>N-(intOf i).toNat)
  case atStart=>exact⟨0,0,by omega,rfl,rfl,hZ (by simp[val]),hZ rfl⟩
  case round=>
   obtain⟨k,s,hk,rfl,rfl,hs,hw⟩:=hrel;by_cases hlt:k<N
   ·have hka:k<A.length:=by rw[HN.o];exact hlt
    obtain⟨b,off,rfl,hb,hcc⟩:=Hc.o (by omega);have hyl:A[k]<4294967296:=Hlow.o _ (List.getElem_mem hka);have cy:wr.cell? ⟨b,off+k,none⟩=some (.int .u32 (A[k]:Int)):=by
     rw[<-hw.o,World.cell?_alloc_lt _ _ _ hb];exact hcc k hka
    have Hst:=hZ (qAj W2 A k hka);clear hcc;generalize A[k]=y at *;have hk2:k=0\/k=1:=by omega
    rcases hk2 with rfl|rfl
    ·obtain rfl:s=0:=by rw[hs.o];simp[val]
     have hor:=qJJ y hyl;rw[Nat.add_zero]at cy
     go_wp2_with fail
     refine⟨⟨1,y,by omega,rfl,rfl,hZ ?_,hw⟩,?_⟩
     ·have:=Hst.o
      rw[Nat.zero_add]at this;rw[this];simp[val]
     ·simp[intOf];omega
    ·have hs1:s<4294967296:=by
      have h3:=qBP W2 (by decide) (A.take 1) (qEg Hlow.o 1);rw[List.length_take,Nat.min_eq_left (by omega)]at h3;rw[hs.o];exact h3
     have hor:=qJK s y hs1 hyl
     go_wp2_with fail
     refine⟨⟨2,s+y*4294967296,by omega,rfl,by go_num,hZ ?_,hw⟩,?_⟩
     ·have:=Hst.o
      rw[show 1+1=2 from rfl]at this;rw[this,<-hs.o];rfl
     ·simp[intOf];omega
   ·obtain rfl:k=N:=by omega
    clear hlt;obtain rfl:s=z.natAbs:=by
     rw[hs.o,List.take_of_length_le (by rw[HN.o];exact Nat.le_refl _)];exact Hval.o
    have hs2:z.natAbs<18446744073709551616:=by
     have h3:=qBP W2 (by decide) A Hlow.o;rw[Hval.o,HN.o]at h3;have h4:W2^k<=W2^2:=Nat.pow_le_pow_right (by decide) (by omega);have h5:W2^2=18446744073709551616:=rfl;omega
    have HBw:Hid (Below w.heap.size w wr):=hZ (by rw[<-hw.o];exact HB.o _ _);have cneg:wr.cell? ⟨w.heap.size,0,none⟩=some (.bool (decide (z<0))):=by
     rw[<-hw.o];exact(Two.new w 73 _ _).cell0
    clear hw Hc HB hs;by_cases hz:z<0
    ·rw[decide_eq_true hz]at cneg
     have hza:(z.natAbs:Int)= -z:=by omega
     obtain⟨m,hm⟩:=eX z.natAbs;rw[hm]at hs2 hza ⊢;have hmp:0<m:=by omega
     by_cases hbig:9223372036854775808<m
     ·have Hb:Hid (qCn z=.tuple #[.int .i64 0,.bool false]):=hZ (by unfold qCn;rw[if_neg (by omega)])
      clear hm hza
      go_wp2
      go_ret2
      exact⟨by rw[Hb.o];rfl,HBw.o⟩
     ·have Hb:Hid (qCn z=.tuple #[.int .i64 (-(m:Int)),.bool true]):=hZ (by unfold qCn;rw[if_pos (by omega),hza,Int.neg_neg])
      have b1:IntKind.u64.wrap (-(m:Int))=18446744073709551616-(m:Int):=by rw[IntKind.wrap_u64];omega
      have b2:IntKind.i64.wrap (18446744073709551616-(m:Int))= -(m:Int):=by rw[IntKind.wrap_i64];omega
      clear hm hza
      go_wp2
      go_ret2
      exact⟨by rw[Hb.o];rfl,HBw.o⟩
    ·rw[decide_eq_false hz]at cneg
     have hza:(z.natAbs:Int)=z:=by omega
     obtain⟨m,hm⟩:=eX z.natAbs;rw[hm]at hs2 hza ⊢;by_cases hbig:9223372036854775807<m
     ·have Hb:Hid (qCn z=.tuple #[.int .i64 0,.bool false]):=hZ (by unfold qCn;rw[if_neg (by omega)])
      clear hm hza
      go_wp2
      go_ret2
      exact⟨by rw[Hb.o];rfl,HBw.o⟩
     ·have Hb:Hid (qCn z=.tuple #[.int .i64 (m:Int),.bool true]):=hZ (by unfold qCn;rw[if_pos (by omega),hza])
      clear hm hza
      go_wp2
      go_ret2
      exact⟨by rw[Hb.o];rfl,HBw.o⟩
def qSe:Value->Nat
 |.slice _ l _=>l
 |_=>0
def qQV:Value->Nat
 |.int _ i=>(i+1).toNat
 |_=>0
def sv(t:Tx):Value:=.string ⟨t.toArray⟩
theorem qOb(a b:Tx):(⟨a.toArray⟩:ByteArray)++⟨b.toArray⟩=⟨(a++b).toArray⟩:=by
 apply ByteArray.ext;rw[ByteArray.data_append];simp
end Go.Proofs.YtkjhlkngihponaaGreatDoor
