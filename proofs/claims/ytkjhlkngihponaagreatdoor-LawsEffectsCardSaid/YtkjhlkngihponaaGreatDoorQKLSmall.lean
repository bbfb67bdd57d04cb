/- lattice.small. -/
import Derived.Test.YtkjhlkngihponaaGreatDoorQKLRow
import Derived.Test.YtkjhlkngihponaaGreatDoorQKWDivide
set_option linter.unusedVariables false
set_option linter.unusedSimpArgs false
set_option maxHeartbeats 8000000
set_option maxRecDepth 100000
namespace Go.Proofs.YtkjhlkngihponaaGreatDoor

abbrev Vec:=Nat->Int
def xpd(c:Nat):(List Vec->Int)->List Vec->Int
 |_,[]=>0
 |f,r::rs=>r c*f rs-xpd c (fun l=>f (r::l)) rs
def det:List Nat->List Vec->Int
 |[],_=>1
 |c::cs,R=>xpd c (det cs) R
theorem qJt(c:Nat):∀(R:List Vec) (f g:List Vec->Int),xpd c (fun l=>f l-g l) R=xpd c f R-xpd c g R
 |[],f,g=>by simp[xpd]
 |r::rs,f,g=>by
  simp only[xpd];rw[qJt c rs (fun l=>f (r::l)) (fun l=>g (r::l)),Int.mul_sub];omega
theorem qHg(c:Nat)(a:Int):∀(R:List Vec) (f:List Vec->Int),xpd c (fun l=>a*f l) R=a*xpd c f R
 |[],f=>by simp[xpd]
 |r::rs,f=>by
  simp only[xpd];rw[qHg c a rs (fun l=>f (r::l)),Int.mul_sub,<-Int.mul_assoc,<-Int.mul_assoc,Int.mul_comm (r c) a]
theorem qKp(a b:Nat):∀(R:List Vec) (f:List Vec->Int),xpd a (fun l=>xpd b f l) R= -xpd b (fun l=>xpd a f l) R
 |[],f=>by simp[xpd]
 |r::rs,f=>by
  simp only[xpd];rw[qJt a rs,qJt b rs,qHg,qHg,qKp a b rs (fun l=>f (r::l))]
  show _= -(r b*xpd a (fun l=>f l) rs-(r a*xpd b f rs-xpd b (fun l=>xpd a (fun l=>f (r::l)) l) rs))
  have e1:xpd a (fun l=>f l) rs=xpd a f rs:=rfl;have e2:xpd b (fun l=>f l) rs=xpd b f rs:=rfl;rw[e1];omega
theorem qHV(a b:Nat)(cs:List Nat)(R:List Vec):det (a::b::cs) R= -det (b::a::cs) R:=qKp a b R (det cs)
theorem qPk(a:Nat)(cs:List Nat)(R:List Vec):det (a::a::cs) R=0:=by
 have:=qHV a a cs R;omega
theorem qI0{s:Int}{l1 l2:List Nat}(x:Nat)(R:List Vec)(h:∀R,det l1 R=s*det l2 R):det (x::l1) R=s*det (x::l2) R:=by
 show xpd x (det l1) R=s*xpd x (det l2) R
 rw[<-qHg,show det l1=fun l=>s*det l2 l from funext h]
theorem qHU(c:Nat):∀(cs:List Nat),c∈cs->∀R,det (c::cs) R=0
 |[],h,_=>by simp at h
 |b::cs,h,R=>by
  by_cases hb:c=b
  ·subst hb;exact qPk _ _ _
  ·have hc:c∈cs:=by simpa[hb]using h
   rw[qHV,qI0 (s:=0) (l2:=[]) b R (fun R=>by rw[qHU c cs hc R,Int.zero_mul]),Int.zero_mul];rfl
theorem qI1(c:Nat):∀(cs:List Nat),c∈cs->∃s:Int,(s=1\/s= -1)/\∀R,det cs R=s*det (c::cs.erase c) R
 |[],h=>by simp at h
 |b::cs,h=>by
  by_cases hb:b=c
  ·subst hb
   exact⟨1,.inl rfl,fun R=>by rw[List.erase_cons_head,Int.one_mul]⟩
  ·have hc:c∈cs:=by rcases List.mem_cons.1 h with h|h;exact absurd h.symm hb;exact h
   obtain⟨s,hs,h2⟩:=qI1 c cs hc;refine⟨-s,by omega,fun R=> ?_⟩;rw[qI0 b R h2,qHV,List.erase_cons_tail (by simpa using hb),Int.neg_mul,Int.mul_neg]
def comb:List Int->List Vec->Vec
 |q::qs,r::rs=>fun j=>q*r j+comb qs rs j
 |_,_=>fun _=>0
def xco:(List Vec->Int)->List Vec->List Int
 |_,[]=>[]
 |f,r::rs=>f rs::(xco (fun l=>f (r::l)) rs).map (fun x=> -x)
theorem qK5:∀(q:List Int) (R:List Vec) (j:Nat),comb (q.map (fun x=> -x)) R j= -comb q R j
 |[],R,j=>by cases R<;>simp[comb]
 |x::q,[],j=>by simp[comb]
 |x::q,r::R,j=>by simp only[List.map_cons,comb,qK5 q R j,Int.neg_mul];omega
theorem qKq(c:Nat):∀(R:List Vec) (f:List Vec->Int),xpd c f R=comb (xco f R) R c
 |[],f=>by simp[xpd,comb,xco]
 |r::rs,f=>by
  simp only[xpd,xco,comb,qK5];rw[qKq c rs,Int.mul_comm];omega
theorem qEm(c:Nat)(cs:List Nat)(R:List Vec):det (c::cs) R=comb (xco (det cs) R) R c:=qKq c R _
def qAa(A:List Vec)(v:Vec):Prop:=∃q:List Int,∀j,v j=comb q A j
theorem qK6:∀(p q:List Int) (R:List Vec),∃s:List Int,∀j,comb p R j+comb q R j=comb s R j
 |[],q,R=>⟨q,fun j=>by cases R<;>simp[comb]⟩
 |p,[],R=>⟨p,fun j=>by cases R<;>simp[comb]⟩
 |x::p,y::q,[]=>⟨[],fun j=>by simp[comb]⟩
 |x::p,y::q,r::R=>by
  obtain⟨s,hs⟩:=qK6 p q R;refine⟨(x+y)::s,fun j=> ?_⟩;simp only[comb,<-hs j,Int.add_mul];omega
theorem qI4(a:Int):∀(q:List Int) (R:List Vec) (j:Nat),comb (q.map (fun x=>a*x)) R j=a*comb q R j
 |[],R,j=>by cases R<;>simp[comb]
 |x::q,[],j=>by simp[comb]
 |x::q,r::R,j=>by simp only[List.map_cons,comb,qI4 a q R j,Int.mul_add,Int.mul_assoc]
section
variable {A:List Vec}{v w:Vec}
theorem qAa.zero:qAa A (fun _=>0):=⟨[],fun j=>by cases A<;>simp[comb]⟩
theorem qAa.add(h:qAa A v)(h2:qAa A w):qAa A (fun j=>v j+w j):=by
 obtain⟨p,hp⟩:=h;obtain⟨q,hq⟩:=h2;obtain⟨s,hs⟩:=qK6 p q A;exact⟨s,fun j=>by show v j+w j=_;rw[hp,hq,hs]⟩
theorem qAa.smul(a:Int)(h:qAa A v):qAa A (fun j=>a*v j):=by
 obtain⟨p,hp⟩:=h;exact⟨p.map (fun x=>a*x),fun j=>by show a*v j=_;rw[qI4,hp]⟩
theorem qAa.congr(h:qAa A v)(he:∀j,v j=w j):qAa A w:=by
 obtain⟨p,hp⟩:=h;exact⟨p,fun j=>by rw[<-he,hp]⟩
theorem qAa.sub(h:qAa A v)(h2:qAa A w):qAa A (fun j=>v j-w j):=(h.add (h2.smul (-1))).congr (fun j=>by omega)
theorem qAa.mem:∀{A:List Vec} {v:Vec},v∈A->qAa A v
 |[],v,h=>by simp at h
 |a::A,v,h=>by
  rcases List.mem_cons.1 h with rfl|h
  ·exact⟨[1],fun j=>by cases A<;>simp[comb]⟩
  ·obtain⟨q,hq⟩:=qAa.mem h
   exact⟨0::q,fun j=>by simp[comb,hq]⟩
theorem qAa.comb:∀(q:List Int) (R:List Vec),(∀r∈R,qAa A r)->qAa A (comb q R)
 |[],R,_=>qAa.zero.congr (fun j=>by cases R<;>simp[Go.Proofs.YtkjhlkngihponaaGreatDoor.comb])
 |x::q,[],_=>qAa.zero.congr (fun j=>by simp[Go.Proofs.YtkjhlkngihponaaGreatDoor.comb])
 |x::q,r::R,h=>((h r (by simp)).smul x|>.add (qAa.comb q R (fun r hr=>h r (by simp[hr])))).congr (fun j=>by simp[Go.Proofs.YtkjhlkngihponaaGreatDoor.comb])
theorem qAa.trans{B:List Vec}(h:qAa A v)(hB:∀r∈A,qAa B r):qAa B v:=by
 obtain⟨q,hq⟩:=h;exact(qAa.comb q A hB).congr (fun j=>(hq j).symm)
theorem qAa.lin{P:Vec->Prop}(h:qAa A v)(h0:P (fun _=>0))(ha:∀(x:Int) (u w:Vec),P u->P w->P (fun j=>x*u j+w j))(hc:∀u w:Vec,(∀j,u j=w j)->P u->P w)(hA:∀r∈A,P r):P v:=by
 obtain⟨q,hq⟩:=h;have key:∀(q:List Int) (R:List Vec),(∀r∈R,P r)->P (Go.Proofs.YtkjhlkngihponaaGreatDoor.comb q R):=by
  intro q
  induction q with
  |nil=>intro R _;exact hc _ _ (fun j=>by cases R<;>simp[Go.Proofs.YtkjhlkngihponaaGreatDoor.comb]) h0
  |cons x q ih=>
   intro R hR;cases R with
   |nil=>exact hc _ _ (fun j=>by simp[Go.Proofs.YtkjhlkngihponaaGreatDoor.comb]) h0
   |cons r R=>exact hc _ _ (fun j=>by simp[Go.Proofs.YtkjhlkngihponaaGreatDoor.comb]) (ha x r _ (hR r (by simp)) (ih R (fun r hr=>hR r (by simp[hr]))))
 exact hc _ _ (fun j=>(hq j).symm) (key q A hA)
end
theorem qMe(c:Nat)(M F:Nat):∀(R:List Vec) (f:List Vec->Int),(∀r∈R,(r c).natAbs<=M)->(∀l,(∀r∈l,r∈R)->l.length<R.length->(f l).natAbs<=F)->(xpd c f R).natAbs<=R.length*(M*F)
 |[],f,_,_=>by simp[xpd]
 |r::rs,f,h1,h2=>by
  have h3:=qMe c M F rs (fun l=>f (r::l)) (fun a ha=>h1 a (by simp[ha])) (fun l hl hlen=>h2 (r::l) (fun a ha=>by
   rcases List.mem_cons.1 ha with rfl|ha
   ·simp
   ·exact List.mem_cons_of_mem _ (hl a ha)) (by simp;omega))
  have h4:=h1 r (by simp);have h5:=h2 rs (fun a ha=>by simp[ha]) (by simp);have h6:(r c*f rs).natAbs<=M*F:=by rw[Int.natAbs_mul];exact Nat.mul_le_mul h4 h5
  simp only[xpd,List.length_cons,Nat.succ_mul];omega
theorem qPL(M K:Nat):∀(cs:List Nat) (R:List Vec),R.length<=K->(∀r∈R,∀j,(r j).natAbs<=M)->(det cs R).natAbs<=(K*M)^cs.length
 |[],R,_,_=>by simp[det]
 |c::cs,R,hK,hM=>by
  have:=qMe c M ((K*M)^cs.length) R (det cs) (fun r hr=>hM r hr c) (fun l hl hlen=>qPL M K cs l (by omega) (fun r hr=>hM r (hl r hr)));rw[List.length_cons,Nat.pow_succ,Nat.mul_comm _ (K*M),Nat.mul_assoc];exact Nat.le_trans this (Nat.mul_le_mul_right _ hK)
def fit:List Nat->List Vec->Vec->Vec
 |c::cs,r::rs,y=>fun j=>y c*r j+fit cs rs y j
 |_,_,_=>fun _=>0
theorem qEN(x:Int):∀(cs:List Nat) (M:List Vec) (u w:Vec) (j:Nat),fit cs M (fun j=>x*u j+w j) j=x*fit cs M u j+fit cs M w j
 |[],M,u,w,j=>by cases M<;>simp[fit]
 |c::cs,[],u,w,j=>by simp[fit]
 |c::cs,r::M,u,w,j=>by
  simp only[fit,qEN x cs M u w j,Int.mul_add,Int.add_mul,Int.mul_assoc];omega
theorem qF6(M:List Vec)(u:Vec)(j:Nat):fit [] M u j=0:=by cases M<;>simp[fit]
theorem qCP:∀(cs:List Nat) (M:List Vec) (u:Vec) (j:Nat),(∀c∈cs,u c=0)->fit cs M u j=0
 |[],M,u,j,_=>qF6 M u j
 |c::cs,[],u,j,_=>by simp[fit]
 |c::cs,r::M,u,j,h=>by simp[fit,h c (by simp),qCP cs M u j (fun c hc=>h c (by simp[hc]))]
theorem qIS:∀(cs:List Nat) (M:List Vec) (u w:Vec) (j:Nat),(∀c∈cs,u c=w c)->fit cs M u j=fit cs M w j
 |[],M,u,w,j,_=>by rw[qF6,qF6]
 |c::cs,[],u,w,j,_=>by simp[fit]
 |c::cs,r::M,u,w,j,h=>by simp[fit,h c (by simp),qIS cs M u w j (fun c hc=>h c (by simp[hc]))]
theorem qKV:∀(cs:List Nat) (M:List Vec) (c:Nat) (r:Vec) (u:Vec) (j:Nat),cs.length=M.length->fit (cs++[c]) (M++[r]) u j=fit cs M u j+u c*r j
 |[],[],c,r,u,j,_=>by simp[fit]
 |c'::cs,r'::M,c,r,u,j,h=>by simp only[List.cons_append,fit,qKV cs M c r u j (by simpa using h)];omega
 |[],_::_,_,_,_,_,h=>by simp at h
 |_::_,[],_,_,_,_,h=>by simp at h
theorem qNC(d:Int):∀(cs:List Nat) (M:List Vec) (u:Vec) (j t:Nat) (_:cs.length=M.length) (ht:t<cs.length),(∀s (h:s<cs.length),u cs[s]=if s=t then d else 0)->fit cs M u j=d*(M[t]'(by omega)) j
 |c::cs,r::M,u,j,0,hl,ht,h=>by
  have h0:=h 0 (by simp);simp only[List.getElem_cons_zero,if_true]at h0;have h1:fit cs M u j=0:=qCP cs M u j (fun c hc=>by
   obtain⟨s,hs,rfl⟩:=List.mem_iff_getElem.1 hc;have:=h (s+1) (by simpa using hs);simpa using this)
  simp[fit,h0,h1]
 |c::cs,r::M,u,j,t+1,hl,ht,h=>by
  have h0:=h 0 (by simp);simp only[List.getElem_cons_zero]at h0;rw[if_neg (by omega)]at h0;have h1:=qNC d cs M u j t (by simpa using hl) (by simpa using ht) (fun s hs=>by
   have:=h (s+1) (by simpa using hs);simpa using this)
  simp[fit,h0,h1]
 |c::cs,[],_,_,_,hl,_,_=>by simp at hl
 |[],_,_,_,_,_,ht,_=>by simp at ht
def qEX(A:List Vec)(v:Vec):Prop:=∃(s:Int) (C:List Nat) (R:List Vec),(s=1\/s= -1)/\C.length<A.length/\R.length<=A.length/\(∀r∈R,r∈A)/\∀j,v j=s*det (j::C) R
theorem qEX.span{A:List Vec}{v:Vec}(h:qEX A v):qAa A v:=by
 obtain⟨s,C,R,_,_,_,hR,hv⟩:=h;refine((qAa.comb (xco (det C) R) R (fun r hr=>qAa.mem (hR r hr))).smul s).congr (fun j=> ?_);rw[hv,qEm]
theorem qEX.le{A:List Vec}{v:Vec}(h:qEX A v)(M K:Nat)(hK:A.length<=K)(hM1:1<=M)(hM:∀r∈A,∀j,(r j).natAbs<=M)(j:Nat):(v j).natAbs<=(K*M)^K:=by
 obtain⟨s,C,R,hs,hC,hR,hRA,hv⟩:=h;have h1:=qPL M K (j::C) R (by omega) (fun r hr=>hM r (hRA r hr));have h2:(K*M)^(j::C).length<=(K*M)^K:=Nat.pow_le_pow_right (Nat.mul_pos (by omega) hM1) (by simp;omega);rw[hv,Int.natAbs_mul];have:s.natAbs=1:=by rcases hs with rfl|rfl<;>rfl
 rw[this];omega
theorem qEX.perm{A B:List Vec}{v:Vec}(h:qEX A v)(hl:A.length=B.length)(hm:∀r∈A,r∈B):qEX B v:=by
 obtain⟨s,C,R,hs,hC,hR,hRA,hv⟩:=h;exact⟨s,C,R,hs,by omega,by omega,fun r hr=>hm r (hRA r hr),hv⟩
structure qB4(A M:List Vec)(ps:List Nat)(d:Int)(col:Nat):Prop where
 len:M.length=A.length
 le:ps.length<=A.length
 d0:d≠0
 d1:d=det ps.reverse (A.take ps.length).reverse
 low:∀i (h:i<M.length) (h':i<A.length),ps.length<=i->∀j,M[i] j=det (j::ps.reverse) (A[i]::(A.take ps.length).reverse)
 inv:∀i (h:i<M.length) (h':i<A.length) (j:Nat),d*A[i] j=fit ps (M.take ps.length) A[i] j+if ps.length<=i then M[i] j else 0
 diag:∀s t (h:s<M.length) (_:s<ps.length) (h':t<ps.length),M[s] ps[t]=if s=t then d else 0
 zero:∀i (h:i<M.length),ps.length<=i->∀j,j<col->M[i] j=0
 left:∀s (h:s<M.length) (h':s<ps.length),∀j,j<ps[s]->M[s] j=0
 sorted:ps.Pairwise (· < ·)
 lt:∀c∈ps,c<col
 minor:∀r∈M,qEX A r
theorem qB4.start(A:List Vec):qB4 A A [] 1 0 where
 len:=rfl
 le:=by simp
 d0:=by omega
 d1:=rfl
 low:=fun i h h' _ j=>by simp[det,xpd]
 inv:=fun i h h' j=>by simp[qF6]
 diag:=fun s t _ h _=>by simp at h
 zero:=fun _ _ _ j h=>by omega
 left:=fun s _ h=>by simp at h
 sorted:=List.Pairwise.nil
 lt:=by simp
 minor:=fun r hr=>⟨1,[],[r],.inl rfl,by have:=List.length_pos_of_mem hr;simp;omega,by have:=List.length_pos_of_mem hr;simp;omega,by simpa using hr,fun j=>by simp[det,xpd]⟩
theorem qB4.skip{A M:List Vec}{ps:List Nat}{d:Int}{col:Nat}(h:qB4 A M ps d col)(h0:∀i (h:i<M.length),ps.length<=i->M[i] col=0):qB4 A M ps d (col+1):=
 { h with
  zero:=fun i hi hk j hj=>by
   rcases Nat.lt_or_ge j col with h1|h1
   ·exact h.zero i hi hk j h1
   ·obtain rfl:j=col:=by omega
    exact h0 i hi hk
  lt:=fun c hc=>by have:=h.lt c hc;omega }
def qAH{α:Type}(l:List α)(a b:Nat)(ha:a<l.length)(hb:b<l.length):List α:=(l.set a l[b]).set b l[a]
section
variable {α:Type}{l:List α}{a b:Nat}{ha:a<l.length}{hb:b<l.length}
theorem qAe:(qAH l a b ha hb).length=l.length:=by simp[qAH]
theorem qAx(i:Nat)(hi:i<l.length):(qAH l a b ha hb)[i]'(by rw[qAe];exact hi)=if i=b then l[a]else if i=a then l[b]else l[i]:=by
 unfold qAH;rw[List.getElem_set];by_cases h:b=i
 ·rw[if_pos h,if_pos h.symm]
 ·rw[if_neg h,if_neg (Ne.symm h),List.getElem_set]
  by_cases h2:a=i
  ·rw[if_pos h2,if_pos h2.symm]
  ·rw[if_neg h2,if_neg (Ne.symm h2)]
theorem qEB(k:Nat)(h1:k<=a)(h2:k<=b):(qAH l a b ha hb).take k=l.take k:=by
 apply List.ext_getElem
 ·simp[qAe]
 ·intro i hi hi'
  have:i<k:=by simp at hi';omega
  rw[List.getElem_take,List.getElem_take,qAx i (by simp at hi';omega),if_neg (by omega),if_neg (by omega)]
theorem qFC(x:α)(h:x∈qAH l a b ha hb):x∈l:=by
 obtain⟨i,hi,rfl⟩:=List.mem_iff_getElem.1 h;rw[qAx i (by rw[qAe]at hi;exact hi)]
 split
 ·exact List.getElem_mem _
 ·split<;>exact List.getElem_mem _
theorem qGU(x:α)(h:x∈l):x∈qAH l a b ha hb:=by
 obtain⟨i,hi,rfl⟩:=List.mem_iff_getElem.1 h;by_cases h1:i=a
 ·subst h1
  have:=List.getElem_mem (l:=qAH l i b ha hb) (n:=b) (by rw[qAe];exact hb)
  rwa [qAx b hb,if_pos rfl]at this
 ·by_cases h2:i=b
  ·subst h2
   have:=List.getElem_mem (l:=qAH l a i ha hb) (n:=a) (by rw[qAe];exact ha);rw[qAx a ha]at this;by_cases h3:a=i
   ·exact absurd h3.symm h1
   ·rwa [if_neg h3,if_pos rfl]at this
  ·have:=List.getElem_mem (l:=qAH l a b ha hb) (n:=i) (by rw[qAe];exact hi)
   rwa [qAx i hi,if_neg h2,if_neg h1]at this
end
theorem qB4.swap{A M:List Vec}{ps:List Nat}{d:Int}{col:Nat}(h:qB4 A M ps d col)(a b:Nat)(ha:a<M.length)(hb:b<M.length)(h1:ps.length<=a)(h2:ps.length<=b):
 qB4 (qAH A a b (by rw[<-h.len];exact ha) (by rw[<-h.len];exact hb)) (qAH M a b ha hb) ps d col where
 len:=by rw[qAe,qAe,h.len]
 le:=by rw[qAe];exact h.le
 d0:=h.d0
 d1:=by rw[qEB _ h1 h2];exact h.d1
 low:=fun i hi hi' hk j=>by
  rw[qAe]at hi hi';rw[qEB _ h1 h2,qAx i hi,qAx i hi']
  split
  ·exact h.low a _ _ h1 j
  ·split
   ·exact h.low b _ _ h2 j
   ·exact h.low i _ _ hk j
 inv:=fun i hi hi' j=>by
  rw[qAe]at hi hi';rw[qEB _ h1 h2,qAx i hi,qAx i hi'];by_cases e1:i=b
  ·subst e1
   have:=h.inv a ha (by rw[<-h.len];exact ha) j;rw[if_pos h1]at this;simpa[h2]using this
  ·by_cases e2:i=a
   ·subst e2
    have:=h.inv b hb (by rw[<-h.len];exact hb) j;rw[if_pos h2]at this;simpa[h1,e1]using this
   ·have:=h.inv i hi hi' j
    simpa[e1,e2]using this
 diag:=fun s t hs hk hs'=>by
  rw[qAe]at hs;rw[qAx s hs,if_neg (by omega),if_neg (by omega)];exact h.diag s t hs hk hs'
 zero:=fun i hi hk j hj=>by
  rw[qAe]at hi;rw[qAx i hi]
  split
  ·exact h.zero a _ h1 j hj
  ·split
   ·exact h.zero b _ h2 j hj
   ·exact h.zero i hi hk j hj
 left:=fun s hs hk j hj=>by
  rw[qAe]at hs;rw[qAx s hs,if_neg (by omega),if_neg (by omega)];exact h.left s hs hk j hj
 sorted:=h.sorted
 lt:=h.lt
 minor:=fun r hr=>(h.minor r (qFC r hr)).perm (by rw[qAe]) (fun r hr=>qGU r hr)
theorem qKU{d head:Int}{p:Vec}{col:Nat}(u:Vec)(j:Nat):∀(ps:List Nat) (L L':List Vec),L.length=L'.length->(∀t (h:t<L.length) (h':t<L'.length) (j:Nat),d*L'[t] j=head*L[t] j-L[t] col*p j)->d*fit ps L' u j=head*fit ps L u j-fit ps L u col*p j
 |[],L,L',_,_=>by simp[qF6]
 |c::ps,[],[],_,_=>by simp[fit]
 |c::ps,r::L,r'::L',hl,h=>by
  have h0:=h 0 (by simp) (by simp) j;have ih:=qKU u j ps L L' (by simpa using hl) (fun t h1 h2 j=>by
   have:=h (t+1) (by simpa using h1) (by simpa using h2) j;simpa using this)
  simp only[List.getElem_cons_zero]at h0;simp only[fit]
  grind
 |_::_,[],_::_,hl,_=>by simp at hl
 |_::_,_::_,[],hl,_=>by simp at hl
section
variable {A M:List Vec}{ps:List Nat}{d:Int}{col:Nat}
theorem qB4.rel(h:qB4 A M ps d col)(q:List Int)(j:Nat):∀(R:List Vec),(∀r∈R,r∈A.take ps.length)->d*comb q R j=fit ps (M.take ps.length) (comb q R) j:=by
 induction q with
 |nil=>intro R _;cases R<;>simp[comb,qCP]
 |cons x q ih=>
  intro R hR;cases R with
  |nil=>simp[comb,qCP]
  |cons r R=>
   have h1:=ih R (fun r hr=>hR r (by simp[hr]));obtain⟨t,ht,hr⟩:=List.mem_iff_getElem.1 (hR r (by simp));rw[List.length_take]at ht;rw[List.getElem_take]at hr;have h2:=h.inv t (by have:=h.len;omega) (by omega) j;rw[if_neg (by omega),hr]at h2;simp only[comb];rw[qEN,<-h1,Int.mul_add,show d*(x*r j)=x*(d*r j) by grind,h2]
   grind
theorem qB4.rel2(h:qB4 A M ps d col)(q:List Int)(x:Int)(k j:Nat)(hk:k<A.length)(hkm:k<M.length)(hp:ps.length<=k)(R:List Vec)(hR:∀r∈R,r∈A.take ps.length):
 d*comb (x::q) (A[k]::R) j=fit ps (M.take ps.length) (comb (x::q) (A[k]::R)) j+x*M[k] j:=by
 have h1:=h.rel q j R hR;have h2:=h.inv k hkm hk j;rw[if_pos hp]at h2;simp only[comb];rw[qEN,<-h1,Int.mul_add,show d*(x*A[k] j)=x*(d*A[k] j) by grind,h2]
 grind
theorem qB4.rel3(h:qB4 A M ps d col)(q:List Int)(x y:Int)(i k j:Nat)(hi:i<A.length)(him:i<M.length)(hpi:ps.length<=i)(hk:k<A.length)(hkm:k<M.length)(hp:ps.length<=k)(R:List Vec)(hR:∀r∈R,r∈A.take ps.length):
 d*comb (x::y::q) (A[i]::A[k]::R) j=fit ps (M.take ps.length) (comb (x::y::q) (A[i]::A[k]::R)) j+x*M[i] j+y*M[k] j:=by
 have h1:=h.rel2 q y k j hk hkm hp R hR;have h2:=h.inv i him hi j;rw[if_pos hpi]at h2;rw[show comb (x::y::q) (A[i]::A[k]::R)=fun j=>x*A[i] j+comb (y::q) (A[k]::R) j from rfl,qEN]
 show d*(x*A[i] j+comb (y::q) (A[k]::R) j)=_
 rw[Int.mul_add,h1,show d*(x*A[i] j)=x*(d*A[i] j) by grind,h2]
 grind
theorem qB4.exact(h:qB4 A M ps d col)(hk:ps.length<M.length)(hc:M[ps.length] col≠0)(i:Nat)(hi:i<M.length)(hne:i≠ps.length):
 ∃Y:Vec,qEX A Y/\(∀j,d*Y j=M[ps.length] col*M[i] j-M[i] col*M[ps.length] j)/\
  (ps.length<i->∀j,Y j=det (j::col::ps.reverse) ((A[i]'(by rw[<-h.len];exact hi))::(A[ps.length]'(by rw[<-h.len];exact hk))::(A.take ps.length).reverse))/\
  (∀hs:i<ps.length,(∀c∈col::ps,c≠ps[i]->Y c=0)/\Y ps[i]=M[ps.length] col):=by
 have hlen:=h.len;have hkA:ps.length<A.length:=by omega
 have hhead:=h.low ps.length hk hkA (Nat.le_refl _) col;have hRR:∀r∈(A.take ps.length).reverse,r∈A.take ps.length:=fun r hr=>List.mem_reverse.1 hr;have hrl:(A.take ps.length).reverse.length=ps.length:=by simp;omega
 have hRA:∀r∈(A.take ps.length).reverse,r∈A:=fun r hr=>List.mem_of_mem_take (hRR r hr);rcases Nat.lt_or_ge ps.length i with hlt|hge
 ·--a lower row
  have hiA:i<A.length:=by omega
  have hMi:=h.low i hi hiA (by omega) col;refine⟨fun j=>det (j::col::ps.reverse) (A[i]::A[ps.length]::(A.take ps.length).reverse),?_,fun j=> ?_,fun _ j=>rfl,fun hs=>by omega⟩
  ·refine⟨1,col::ps.reverse,A[i]::A[ps.length]::(A.take ps.length).reverse,.inl rfl,by simp;omega,by simp;omega,fun r hr=> ?_,fun j=>by simp⟩
   rcases List.mem_cons.1 hr with rfl|hr
   ·exact List.getElem_mem _
   ·rcases List.mem_cons.1 hr with rfl|hr
    ·exact List.getElem_mem _
    ·exact hRA r hr
  ·have e:xco (det (col::ps.reverse)) (A[i]::A[ps.length]::(A.take ps.length).reverse)=M[ps.length] col::(-(M[i] col))::((xco (fun l=>det (col::ps.reverse) (A[i]::A[ps.length]::l)) (A.take ps.length).reverse).map (fun x=> -x)).map (fun x=> -x):=by
    rw[hhead,hMi];rfl
   have h3:=h.rel3 (((xco (fun l=>det (col::ps.reverse) (A[i]::A[ps.length]::l)) (A.take ps.length).reverse).map (fun x=> -x)).map (fun x=> -x)) (M[ps.length] col) (-(M[i] col)) i ps.length j hiA hi (by omega) hkA hk (Nat.le_refl _) _ hRR;rw[<-e]at h3;have h4:fit ps (M.take ps.length) (comb (xco (det (col::ps.reverse)) (A[i]::A[ps.length]::(A.take ps.length).reverse)) (A[i]::A[ps.length]::(A.take ps.length).reverse)) j=0:=qCP _ _ _ _ (fun c hcm=>by
    rw[<-qEm];exact qHU c _ (by simp[hcm]) _)
   rw[h4]at h3
   show d*det (j::col::ps.reverse) (A[i]::A[ps.length]::(A.take ps.length).reverse)=_
   rw[qEm,h3]
   grind
 ·--a row of a pivot
  have hs:i<ps.length:=by omega
  have hcol:col≠ps[i]:=fun e=>by have:=h.lt ps[i] (List.getElem_mem hs);omega
  obtain⟨s,hs1,hs2⟩:=qI1 ps[i] (col::ps.reverse) (by simp);have hY0:∀c∈col::ps,c≠ps[i]->s*det (c::(col::ps.reverse).erase ps[i]) (A[ps.length]::(A.take ps.length).reverse)=0:=by
   intro c hcm hcn;rw[qHU c _ ((List.mem_erase_of_ne hcn).2 (by simpa using hcm))];simp
  have hY1:s*det (ps[i]::(col::ps.reverse).erase ps[i]) (A[ps.length]::(A.take ps.length).reverse)=M[ps.length] col:=by rw[<-hs2,hhead]
  refine⟨fun j=>s*det (j::(col::ps.reverse).erase ps[i]) (A[ps.length]::(A.take ps.length).reverse),?_,fun j=> ?_,fun h=>by omega,fun _=>⟨hY0,hY1⟩⟩
  ·refine⟨s,(col::ps.reverse).erase ps[i],A[ps.length]::(A.take ps.length).reverse,hs1,?_,by simp;omega,fun r hr=> ?_,fun j=>rfl⟩
   ·rw[List.length_erase_of_mem (by simp)];simp;omega
   ·rcases List.mem_cons.1 hr with rfl|hr
    ·exact List.getElem_mem _
    ·exact hRA r hr
  ·obtain⟨x,q,hx⟩:∃x q,xco (det ((col::ps.reverse).erase ps[i])) (A[ps.length]::(A.take ps.length).reverse)=x::q:=⟨_,_,rfl⟩
   have hrel:∀j,d*(s*det (j::(col::ps.reverse).erase ps[i]) (A[ps.length]::(A.take ps.length).reverse))=M[ps.length] col*M[i] j+(s*x)*M[ps.length] j:=by
    intro j;have h3:=h.rel2 q x ps.length j hkA hk (Nat.le_refl _) _ hRR;rw[<-hx]at h3;have h4:fit ps (M.take ps.length) (fun j=>s*comb (xco (det ((col::ps.reverse).erase ps[i])) (A[ps.length]::(A.take ps.length).reverse)) (A[ps.length]::(A.take ps.length).reverse) j+(fun _=>0) j) j=M[ps.length] col*M[i] j:=by
     have h5:=qNC (M[ps.length] col) ps (M.take ps.length) (fun j=>s*comb (xco (det ((col::ps.reverse).erase ps[i])) (A[ps.length]::(A.take ps.length).reverse)) (A[ps.length]::(A.take ps.length).reverse) j+(fun _=>0) j) j i (by simp;omega) hs (fun t ht=>by
      show s*comb _ _ ps[t]+0=_
      rw[<-qEm]
      split
      ·next e=>subst e;rw[hY1];omega
      ·next e=>
       rw[hY0 ps[t] (by simp) (fun e2=>e (by
        rcases Nat.lt_trichotomy t i with h6|h6|h6
        ·have:=List.pairwise_iff_getElem.1 h.sorted t i ht hs h6;omega
        ·exact h6
        ·have:=List.pairwise_iff_getElem.1 h.sorted i t hs ht h6;omega))]
       rfl)
     rw[h5,List.getElem_take]
    rw[qEN,qCP ps _ (fun _=>0) j (fun _ _=>rfl)]at h4;rw[show det (j::(col::ps.reverse).erase ps[i]) (A[ps.length]::(A.take ps.length).reverse)=_ from qEm _ _ _]
    grind
   have hx2:=hrel col;rw[hY0 col (by simp) hcol]at hx2;have hx3:s*x= -(M[i] col):=by
    have h7:M[ps.length] col*(M[i] col+s*x)=0:=by grind
    rcases Int.mul_eq_zero.1 h7 with h8|h8
    ·exact absurd h8 hc
    ·omega
   show d*(s*_)=_
   rw[hrel j,hx3]
   grind
theorem qB4.step(h:qB4 A M ps d col)(hk:ps.length<M.length)(hc:M[ps.length] col≠0)(M':List Vec)(hl:M'.length=M.length)
 (hp:∀(h':ps.length<M'.length) (j:Nat),M'[ps.length] j=M[ps.length] j)
 (ho:∀i (h:i<M.length) (h':i<M'.length),i≠ps.length->∀j,M'[i] j=(M[ps.length] col*M[i] j-M[i] col*M[ps.length] j)/d):
 qB4 A M' (ps++[col]) (M[ps.length] col) (col+1):=by
 have hlen:=h.len;have hkA:ps.length<A.length:=by omega
 have hd:=h.d0;have hkM':ps.length<M'.length:=by omega
 --each row is the exact one
 have key:∀i (hi:i<M.length) (hi':i<M'.length),i≠ps.length->qEX A M'[i]/\(∀j,d*M'[i] j=M[ps.length] col*M[i] j-M[i] col*M[ps.length] j)/\
  (ps.length<i->∀(h1:i<A.length) (h2:ps.length<A.length),∀j,M'[i] j=det (j::col::ps.reverse) (A[i]::A[ps.length]::(A.take ps.length).reverse))/\
  (∀hs:i<ps.length,(∀c∈col::ps,c≠ps[i]->M'[i] c=0)/\M'[i] ps[i]=M[ps.length] col):=by
  intro i hi hi' hne;obtain⟨Y,h1,h2,h3,h4⟩:=h.exact hk hc i hi hne;have he:∀j,M'[i] j=Y j:=fun j=>by rw[ho i hi hi' hne j,<-h2 j,Int.mul_ediv_cancel_left _ hd]
  obtain⟨s,C,R,g1,g2,g3,g4,g5⟩:=h1;refine⟨⟨s,C,R,g1,g2,g3,g4,fun j=>by rw[he,g5]⟩,fun j=>by rw[he,h2],fun hlt _ _ j=>by rw[he,h3 hlt j],fun hs=>⟨fun c hcm hcn=>by rw[he,(h4 hs).1 c hcm hcn],by rw[he,(h4 hs).2]⟩⟩
 have htk:M'.take (ps.length+1)=M'.take ps.length++[M'[ps.length]]:=by rw[List.take_succ_eq_append_getElem hkM']
 have hAk:(A.take (ps.length+1)).reverse=A[ps.length]::(A.take ps.length).reverse:=by rw[List.take_succ_eq_append_getElem hkA];simp
 have hrev:(ps++[col]).reverse=col::ps.reverse:=by simp
 have hl1:(ps++[col]).length=ps.length+1:=by simp
 refine⟨by omega,by rw[hl1];omega,hc,?_,?_,?_,?_,?_,?_,?_,?_,?_⟩
 ·rw[hrev,hl1,hAk]
  exact h.low ps.length hk hkA (Nat.le_refl _) col
 ·intro i hi hi' hki j
  rw[hl1]at hki;rw[hrev,hl1,hAk];exact(key i (by omega) hi (by omega)).2.2.1 (by omega) hi' hkA j
 ·intro i hi hi' j
  rw[hl1,htk];have hfl:ps.length=(M'.take ps.length).length:=by simp;omega
  rw[qKV ps (M'.take ps.length) col M'[ps.length] A[i] j hfl];have hf:=qKU (d:=d) (head:=M[ps.length] col) (p:=M[ps.length]) (col:=col) A[i] j ps (M.take ps.length) (M'.take ps.length) (by simp;omega) (fun t ht ht' j=>by
   rw[List.length_take]at ht;rw[List.getElem_take,List.getElem_take];exact(key t (by omega) (by omega) (by omega)).2.1 j)
  have h1:=h.inv i (by omega) hi' j;have h2:=h.inv i (by omega) hi' col;rw[hp hkM'];apply Int.eq_of_mul_eq_mul_left hd;rcases Nat.lt_trichotomy i ps.length with hc1|hc1|hc1
  ·rw[if_neg (by omega)]at h1 h2 ⊢
   grind
  ·subst hc1
   rw[if_pos (Nat.le_refl _)]at h1 h2;rw[if_neg (by omega)]
   grind
  ·rw[if_pos (by omega)]at h1 h2 ⊢
   have h3:=(key i (by omega) hi (by omega)).2.1 j
   grind
 ·intro s t hs hsk htk'
  rw[hl1]at hsk htk';rw[List.getElem_append];by_cases hsp:s=ps.length
  ·subst hsp
   rw[hp];by_cases htp:t<ps.length
   ·rw[dif_pos htp,if_neg (by omega)]
    exact h.zero _ hk (Nat.le_refl _) _ (h.lt _ (List.getElem_mem _))
   ·rw[dif_neg htp,if_pos (by omega)]
    simp
  ·have hk4:=(key s (by omega) hs hsp).2.2.2 (by omega)
   by_cases htp:t<ps.length
   ·rw[dif_pos htp]
    by_cases hst:s=t
    ·subst hst
     rw[if_pos rfl];exact hk4.2
    ·rw[if_neg hst]
     refine hk4.1 _ (by simp) (fun e=>hst ?_);rcases Nat.lt_trichotomy t s with h6|h6|h6
     ·have:=List.pairwise_iff_getElem.1 h.sorted t s htp (by omega) h6;omega
     ·exact h6.symm
     ·have:=List.pairwise_iff_getElem.1 h.sorted s t (by omega) htp h6;omega
   ·rw[dif_neg htp,if_neg (by omega)]
    have hlt:=h.lt ps[s] (List.getElem_mem (by omega));have:=hk4.1 col (by simp) (by omega);simpa using this
 ·intro i hi hki j hj
  rw[hl1]at hki;have h2:=(key i (by omega) hi (by omega)).2.1 j;by_cases hjc:j=col
  ·subst hjc
   have h3:d*M'[i] j=0:=by rw[h2];grind
   exact(Int.mul_eq_zero.1 h3).resolve_left hd
  ·rw[h.zero i (by omega) (by omega) j (by omega),h.zero ps.length hk (Nat.le_refl _) j (by omega)]at h2
   have h3:d*M'[i] j=0:=by rw[h2];simp
   exact(Int.mul_eq_zero.1 h3).resolve_left hd
 ·intro s hs hsk j hj
  rw[hl1]at hsk;rw[List.getElem_append]at hj;by_cases hsp:s<ps.length
  ·rw[dif_pos hsp]at hj
   have hlt:=h.lt ps[s] (List.getElem_mem hsp);have h2:=(key s (by omega) hs (by omega)).2.1 j;rw[h.left s (by omega) hsp j hj,h.zero ps.length hk (Nat.le_refl _) j (by omega)]at h2;have h3:d*M'[s] j=0:=by rw[h2];simp
   exact(Int.mul_eq_zero.1 h3).resolve_left hd
  ·rw[dif_neg hsp]at hj
   obtain rfl:s=ps.length:=by omega
   rw[hp];exact h.zero _ hk (Nat.le_refl _) j (by simpa using hj)
 ·exact List.pairwise_append.2 ⟨h.sorted,by simp,fun a ha b hb=>by simp at hb;subst hb;exact h.lt a ha⟩
 ·intro c hcm
  rcases List.mem_append.1 hcm with h1|h1
  ·have:=h.lt c h1;omega
  ·simp at h1;omega
 ·intro r hr
  obtain⟨i,hi,rfl⟩:=List.mem_iff_getElem.1 hr;by_cases hne:i=ps.length
  ·subst hne
   obtain⟨s,C,R,g1,g2,g3,g4,g5⟩:=h.minor M[ps.length] (List.getElem_mem hk);exact⟨s,C,R,g1,g2,g3,g4,fun j=>by rw[hp,g5]⟩
  ·exact(key i (by omega) hi hne).1
end
open Go.RowKit
theorem Two.only{S:Nat->Prop}{w w':World}{b:Nat}{t:TypeId}{x y:Value}(h:Two w b t x y)(ho:qAc S w w')(hn:¬S b):Two w' b t x y:=(ho.block b h.lt hn).trans h
theorem One.only{S:Nat->Prop}{w w':World}{b:Nat}{t:TypeId}{x:Value}(h:One w b t x)(ho:qAc S w w')(hn:¬S b):One w' b t x:=(ho.block b h.lt hn).trans h
theorem qBb{P:Program}(w:World){ops:Array Oper}{rest:List Oper}{o:Oper}{a:Act}{Q:Exit->Act->World->Prop}
 (hg:o.guard=none)(l c:Operand)(t:TypeId)(hop:o.op=Op.makeSlice t l c)
 (e:TypeId)(i:TypeInfo)(z:Value)(h1:P.underlying t=some (.slice e))(h2:P.info? e=some i)(h3:i.zero=some z)
 (kl kc:IntKind)(A C:Int)(n:Nat)(hl:a.eval l=.int kl A)(hc:a.eval c=.int kc C)(hA:A=(n:Int))(hC:C=(n:Int))(b2:i.bytes*n<=281474976710656)(b3:n<=9223372036854775807)
 (hK:∀w',qAf w' w.heap.size e (madeCells z.cells (n*i.size)).toList->Below w.heap.size w w'->w.heap.size<w'.heap.size->wpList P ops Q rest (a.put o.dst (.slice (some ⟨w.heap.size,0,none⟩) n n)) w'):
 wpList P ops Q (o::rest) a w:=by
 refine wpList_make_full w hg l c t hop w.heap.size e i _ i.size h1 h2 h3 rfl kl kc A C n hl hc hA hC b2 (by unfold maxLen;exact b3) (Nat.le_refl _) ?_;intro w' hown hgr;have hblk:qAf w' w.heap.size e (madeCells z.cells (n*i.size)).toList:=by
  rcases hown.2 with ⟨hv,_⟩|⟨g,cap,cur,hv,_,hb,hn,hm,hs,ht⟩
  ·cases hv
  ·injection hv with hv1 hv2 hv3
   injection hv1 with hv1;injection hv1 with hv1;subst hv1 hv3;unfold qAf;rw[hb];have:cur.toList=(madeCells z.cells (n*i.size)).toList:=by
    rw[<-ht,List.take_of_length_le];rw[Array.length_toList,hs];exact Nat.le_refl _
   rw[<-this]
 exact hK w' hblk (qDO hgr) hblk.lt
theorem qEf(z:Array Value)(n:Nat):(madeCells z n).toList.length=n:=by simp[madeCells]
theorem qFV(z:Array Value)(n k:Nat)(hk:k<n):(madeCells z n).toList[k]? =some z[k%z.size]! :=by
 simp[madeCells,hk]
theorem qOM(z:Array Value)(n:Nat)(hz:0<z.size){u:Value}(h:u∈(madeCells z n).toList):u∈z:=by
 obtain⟨k,hk,rfl⟩:=List.mem_iff_getElem.1 h;rw[qEf]at hk;have h2:=qFV z n k hk;rw[List.getElem?_eq_getElem (by rw[qEf];exact hk)]at h2;injection h2 with h2;rw[h2,getElem!_pos z _ (Nat.mod_lt _ hz)];exact Array.getElem_mem _
theorem qHD(z:Value)(n:Nat)(hz:z.cells=#[z]):(madeCells z.cells (n*1)).toList=List.replicate n z:=by
 rw[hz];refine List.ext_getElem? (fun k=> ?_);rcases Nat.lt_or_ge k n with h|h
 ·rw[qFV _ _ _ (by omega)]
  simp[h,Nat.mod_one]
 ·rw[List.getElem?_eq_none (by rw[qEf];omega),List.getElem?_eq_none (by simpa using h)]
theorem qAC.made{w:World}{g n:Nat}(h:qAf w g 73 (madeCells (Value.agg #[.bool false,.slice none 0 0]).cells (n*2)).toList):qAC w g (List.replicate n 0):=by
 have hc:(Value.agg #[.bool false,.slice none 0 0]).cells=#[.bool false,.slice none 0 0]:=rfl;rw[hc]at h;refine⟨_,h,by rw[qEf];simp,fun u hu x=> ?_,fun j hj=> ?_⟩
 ·have:=qOM _ _ (by simp) hu
  simp at this;rcases this with rfl|rfl<;>intro e<;>cases e
 ·simp only[List.length_replicate]at hj
  refine⟨none,0,0,?_,?_,?_⟩
  ·rw[qFV _ _ _ (by omega)];simp
  ·rw[qFV _ _ _ (by omega)]
   have:(j*2+1)%(#[Value.bool false,Value.slice none 0 0]).size=1:=by show(j*2+1)%2=1;omega
   rw[this];rfl
  ·have h0:=qAJ w
   simpa using h0
abbrev Rw:=Nat×Nat
def rwC(n:Nat)(x:Rw):Value:=.slice (some ⟨x.1,0,none⟩) n x.2
structure qAB(w:World)(l:List Rw)(n:Nat)(M:List (List Int)):Prop where
 len:M.length=l.length
 row:∀i (h:i<l.length),qAC w l[i].1 (M[i]'(by omega))/\(M[i]'(by omega)).length=n
 nodup:∀i j (h:i<l.length) (h':j<l.length),i≠j->l[i].1≠l[j].1
 cap:∀i (h:i<l.length),n<=l[i].2/\l[i].2<=9223372036854775807
section
variable {w w':World}{B n:Nat}{l:List Rw}{M:List (List Int)}
theorem qAB.nil(w:World)(n:Nat):qAB w [] n []:=⟨rfl,fun i h=>by simp at h,fun i j h=>by simp at h,fun i h=>by simp at h⟩
theorem qAB.blw(h:qAB w l n M)(hb:Below w.heap.size w w'):qAB w' l n M:=
 ⟨h.len,fun i hi=>⟨(h.row i hi).1.blw hb,(h.row i hi).2⟩,h.nodup,h.cap⟩
instance:Mv w w' (qAB w l n M) (qAB w' l n M):=⟨fun hb h=>qAB.blw h hb⟩
theorem qAB.only{S:Nat->Prop}(h:qAB w l n M)(ho:qAc S w w')(hS:∀b,S b->qAi w b)(hr:∀i (hi:i<l.length),¬S l[i].1):qAB w' l n M:=
 ⟨h.len,fun i hi=>⟨(h.row i hi).1.only ho hS (hr i hi),(h.row i hi).2⟩,h.nodup,h.cap⟩
theorem qAB.off{g o1 o2:Nat}{s:Bool}{a:Option Addr}{n' c:Nat}(h:qAB w l n M)(hg:qAi w g)(hr:∀i (hi:i<l.length),l[i].1≠g):qAB (st2 w g o1 o2 s a n' c) l n M:=
 h.only (S:=fun b=>b=g) ((qAc.refl _ _).off' (.inl rfl)) (fun b e=>e▸hg) hr
theorem qAB.lt(h:qAB w l n M)(i:Nat)(hi:i<l.length):l[i].1<w.heap.size:=(h.row i hi).1.lt
theorem qAB.snoc(h:qAB w l n M){g c:Nat}{zs:List Int}(hr:qAC w g zs)(hz:zs.length=n)(hg:∀i (hi:i<l.length),l[i].1≠g)(hc:n<=c)(hc2:c<=9223372036854775807):qAB w (l++[(g,c)]) n (M++[zs]):=by
 have hl:=h.len;refine⟨by simp[hl],fun i hi=> ?_,fun i j hi hj hij=> ?_,fun i hi=> ?_⟩
 ·simp only[List.length_append,List.length_singleton]at hi
  by_cases e:i<l.length
  ·rw[List.getElem_append_left e,List.getElem_append_left (by omega)];exact h.row i e
  ·obtain rfl:i=l.length:=by omega
   rw[List.getElem_append_right (by omega),List.getElem_append_right (by omega)];simp only[hl,Nat.sub_self,List.getElem_singleton];exact⟨hr,hz⟩
 ·simp only[List.length_append,List.length_singleton]at hi hj
  by_cases e:i<l.length<;>by_cases e2:j<l.length
  ·rw[List.getElem_append_left e,List.getElem_append_left e2];exact h.nodup i j e e2 hij
  ·rw[List.getElem_append_left e,List.getElem_append_right (by omega)]
   simpa using hg i e
  ·rw[List.getElem_append_right (by omega),List.getElem_append_left e2]
   simpa using (hg j e2).symm
  ·omega
 ·simp only[List.length_append,List.length_singleton]at hi
  by_cases e:i<l.length
  ·rw[List.getElem_append_left e];exact h.cap i e
  ·rw[List.getElem_append_right (by omega)]
   simpa using ⟨hc,hc2⟩
theorem qAB.turn{i:Nat}(h:qAB w l n M)(hi:i<l.length){zs:List Int}(hz:zs.length=n){S:Nat->Prop}(hr:qAC w' l[i].1 zs)(ho:qAc S w w')(hS:∀b,S b->qAi w b)(hk:∀k (hk:k<l.length),k≠i->¬S l[k].1):qAB w' l n (M.set i zs):=by
 refine⟨by rw[List.length_set];exact h.len,fun k hk'=> ?_,h.nodup,h.cap⟩;by_cases e:k=i
 ·subst e
  rw[List.getElem_set_self];exact⟨hr,hz⟩
 ·rw[List.getElem_set_ne (Ne.symm e)]
  exact⟨(h.row k hk').1.only ho hS (hk k hk' e),(h.row k hk').2⟩
theorem qIm{n:Nat}{l:List Rw}:∀u∈l.map (rwC n),∀x,u≠ .int .u32 x:=by
 intro u hu x;obtain⟨y,_,rfl⟩:=List.mem_map.1 hu;intro e;cases e
structure qCX(w:World)(R:Nat)(l:List Rw)(n:Nat)(M:List (List Int)):Prop where
 blk:qAf w R 77 (l.map (rwC n))
 rows:qAB w l n M
 apart:∀i (h:i<l.length),l[i].1≠R
theorem qCX.blw{R:Nat}(h:qCX w R l n M)(hb:Below w.heap.size w w'):qCX w' R l n M:=⟨h.blk.blw hb,h.rows.blw hb,h.apart⟩
instance {R:Nat}:Mv w w' (qCX w R l n M) (qCX w' R l n M):=⟨fun hb h=>qCX.blw h hb⟩
theorem qCX.lt{R:Nat}(h:qCX w R l n M):R<w.heap.size:=h.blk.lt
theorem qCX.len{R:Nat}(h:qCX w R l n M):M.length=l.length:=h.rows.len
theorem qCX.get{R:Nat}(h:qCX w R l n M)(i:Nat)(hi:i<l.length):w.cell? ⟨R,i,none⟩=some (.slice (some ⟨l[i].1,0,none⟩) n l[i].2):=by
 rw[h.blk.cell];simp[hi,rwC]
theorem qCX.noInt{R:Nat}(h:qCX w R l n M):qAi w R:=h.blk.noInt qIm
theorem qCX.only{R:Nat}{S:Nat->Prop}(h:qCX w R l n M)(ho:qAc S w w')(hS:∀b,S b->qAi w b)(hB:¬S R)(hr:∀i (hi:i<l.length),¬S l[i].1):qCX w' R l n M:=
 ⟨h.blk.only ho hB,h.rows.only ho hS hr,h.apart⟩
theorem qCX.turn{R i:Nat}(h:qCX w R l n M)(hi:i<l.length){zs:List Int}(hz:zs.length=n){S:Nat->Prop}(hr:qAC w' l[i].1 zs)(ho:qAc S w w')(hS:∀b,S b->qAi w b)(hR:¬S R)(hk:∀k (hk:k<l.length),k≠i->¬S l[k].1):qCX w' R l n (M.set i zs):=
 ⟨h.blk.only ho hR,h.rows.turn hi hz hr ho hS hk,h.apart⟩
end
def WOf(w:World)(v:Value)(zs:List Int):Prop:=qAb 2 (fun W z cs=>∃s a n c,cs=[.bool s,.slice a n c]/\qAr W (.agg #[.bool s,.slice a n c]) z) w v zs
theorem WOf.blw{w w':World}{v:Value}{zs:List Int}(h:WOf w v zs)(hb:Below w.heap.size w w'):WOf w' v zs:=
 qAb.below h hb (fun _ _ ⟨s,a,n,c,e,hw⟩=>⟨s,a,n,c,e,hw.blw hb⟩)
instance {w w':World} {v:Value} {zs:List Int}:Mv w w' (WOf w v zs) (WOf w' v zs):=⟨fun hb h=>WOf.blw h hb⟩
theorem qAC.of_{w:World}{g c:Nat}{zs:List Int}(h:qAC w g zs)(hc:zs.length<=c)(hc2:c<=9223372036854775807):WOf w (.slice (some ⟨g,0,none⟩) zs.length c) zs:=by
 refine⟨_,c,rfl,hc,hc2,fun _=>⟨g,rfl,h.lt,fun j hj=> ?_⟩⟩;obtain⟨s,a,n,c,h1,h2,h3⟩:=h.get j hj;refine⟨_,⟨s,a,n,c,rfl,h3⟩,rfl,fun i hi=> ?_⟩
 match i,hi with
 |0,_=>simpa using h1
 |1,_=>simpa using h2
theorem WOf.at_{w:World}{v:Value}{zs:List Int}(h:WOf w v zs)(j:Nat)(hj:j<zs.length):∃b cap s a n c,v=.slice (some ⟨b,0,none⟩) zs.length cap/\b<w.heap.size/\w.cell? ⟨b,j*2,none⟩=some (.bool s)/\w.cell? ⟨b,j*2+1,none⟩=some (.slice a n c)/\qAr w (.agg #[.bool s,.slice a n c]) zs[j]:=by
 obtain⟨b,cap,cs,hv,hb,⟨s,a,n,c,rfl,hw⟩,_,hc⟩:=qAb.at_ h j hj;have h0:=hc 0 (by omega);have h1:=hc 1 (by omega);exact⟨b,cap,s,a,n,c,hv,hb,by simpa using h0,by simpa using h1,hw⟩
def qJk(w:World)(v:Value)(M:List (List Int)):Prop:=qAb 1 (fun W r cs=>∃u,cs=[u]/\WOf W u r) w v M
theorem qJk.blw{w w':World}{v:Value}{M:List (List Int)}(h:qJk w v M)(hb:Below w.heap.size w w'):qJk w' v M:=
 qAb.below h hb (fun _ _ ⟨u,e,hu⟩=>⟨u,e,hu.blw hb⟩)
instance {w w':World} {v:Value} {M:List (List Int)}:Mv w w' (qJk w v M) (qJk w' v M):=⟨fun hb h=>qJk.blw h hb⟩
theorem qJk.at_{w:World}{v:Value}{M:List (List Int)}(h:qJk w v M)(j:Nat)(hj:j<M.length):
 ∃b cap a c,v=.slice (some ⟨b,0,none⟩) M.length cap/\b<w.heap.size/\w.cell? ⟨b,j,none⟩=some (.slice a M[j].length c)/\WOf w (.slice a M[j].length c) M[j]/\M[j].length<=c/\c<=9223372036854775807:=by
 obtain⟨b,cap,cs,hv,hb,⟨u,rfl,hu⟩,_,hcell⟩:=qAb.at_ h j hj;obtain⟨a,c,rfl,h1,h2⟩:=qAb.form hu;have h0:=hcell 0 (by omega);exact⟨b,cap,a,c,hv,hb,by simpa using h0,hu,h1,h2⟩
theorem qCX.mat{w:World}{R n c:Nat}{l:List Rw}{M:List (List Int)}(h:qCX w R l n M)(hc:l.length<=c)(hc2:c<=9223372036854775807):qJk w (.slice (some ⟨R,0,none⟩) l.length c) M:=by
 refine⟨_,c,by rw[h.len],by rw[h.len];exact hc,hc2,fun _=>⟨R,rfl,h.lt,fun j hj=> ?_⟩⟩;have hj':j<l.length:=by rw[<-h.len];exact hj
 obtain⟨hr,hl⟩:=h.rows.row j hj';refine⟨_,⟨_,rfl,hr.of_ (c:=l[j].2) (by rw[hl];exact(h.rows.cap j hj').1) (h.rows.cap j hj').2⟩,rfl,fun i hi=> ?_⟩;obtain rfl:i=0:=by omega
 have:=h.get j hj';rw[hl];simpa using this
section
variable {w:World}{ops:Array Oper}{rest:List Oper}{o:Oper}{a:Act}{Q:Exit->Act->World->Prop}{l c:Operand}{kl kc:IntKind}{A C:Int}
theorem qSg:(Tryz.prog.info? 73).map (fun i=>(i.zero,i.size,i.bytes))=some (some (.agg #[.bool false,.slice none 0 0]),2,32):=by kernel_rfl
theorem qPE:(Tryz.prog.info? 77).map (fun i=>(i.zero,i.size,i.bytes))=some (some (.slice none 0 0),1,24):=by kernel_rfl
theorem qRE:(Tryz.prog.info? 22).map (fun i=>(i.zero,i.size,i.bytes))=some (some (.slice none 0 0),1,24):=by kernel_rfl
theorem qSi:(Tryz.prog.info? 3).map (fun i=>(i.zero,i.size,i.bytes))=some (some (.int .i64 0),1,8):=by kernel_rfl
theorem qSh:(Tryz.prog.info? 230).map (fun i=>(i.zero,i.size,i.bytes))=some (some (.agg #[.slice none 0 0,.int .i64 0]),2,32):=by kernel_rfl
theorem qBp(hg:o.guard=none)(hop:o.op=Op.makeSlice 77 l c)(n:Nat)(hl:a.eval l=.int kl A)(hc:a.eval c=.int kc C)(hA:A=(n:Int))(hC:C=(n:Int))(hn:n<=1000)
 (hK:∀w',qAC w' w.heap.size (List.replicate n 0)->Below w.heap.size w w'->w.heap.size<w'.heap.size->wpList Tryz.prog ops Q rest (a.put o.dst (.slice (some ⟨w.heap.size,0,none⟩) n n)) w'):wpList Tryz.prog ops Q (o::rest) a w:=by
 obtain⟨i,hi,hz0,hz1,hz2⟩:=info_parts qSg;refine qBb w hg l c _ hop 73 i _ Tryz.underlying77 hi hz0 kl kc A C n hl hc hA hC (by rw[hz2];omega) (by omega) (fun w' h1 h2 h3=> ?_);rw[hz1]at h1;exact hK w' (qAC.made h1) h2 h3
theorem qCV(hg:o.guard=none)(hop:o.op=Op.makeSlice 78 l c)(n:Nat)(hl:a.eval l=.int kl A)(hc:a.eval c=.int kc C)(hA:A=(n:Int))(hC:C=(n:Int))(hn:n<=1000)
 (hK:∀w',qAf w' w.heap.size 77 (List.replicate n (.slice none 0 0))->Below w.heap.size w w'->w.heap.size<w'.heap.size->wpList Tryz.prog ops Q rest (a.put o.dst (.slice (some ⟨w.heap.size,0,none⟩) n n)) w'):wpList Tryz.prog ops Q (o::rest) a w:=by
 obtain⟨i,hi,hz0,hz1,hz2⟩:=info_parts qPE;refine qBb w hg l c _ hop 77 i _ Tryz.underlying78 hi hz0 kl kc A C n hl hc hA hC (by rw[hz2];omega) (by omega) (fun w' h1 h2 h3=> ?_);rw[hz1,qHD _ _ rfl]at h1;exact hK w' h1 h2 h3
theorem qC5(hg:o.guard=none)(hop:o.op=Op.makeSlice 30 l c)(n:Nat)(hl:a.eval l=.int kl A)(hc:a.eval c=.int kc C)(hA:A=(n:Int))(hC:C=(n:Int))(hn:n<=1000)
 (hK:∀w',qAf w' w.heap.size 22 (List.replicate n (.slice none 0 0))->Below w.heap.size w w'->w.heap.size<w'.heap.size->wpList Tryz.prog ops Q rest (a.put o.dst (.slice (some ⟨w.heap.size,0,none⟩) n n)) w'):wpList Tryz.prog ops Q (o::rest) a w:=by
 obtain⟨i,hi,hz0,hz1,hz2⟩:=info_parts qRE;refine qBb w hg l c _ hop 22 i _ Tryz.underlying30 hi hz0 kl kc A C n hl hc hA hC (by rw[hz2];omega) (by omega) (fun w' h1 h2 h3=> ?_);rw[hz1,qHD _ _ rfl]at h1;exact hK w' h1 h2 h3
theorem qBq(hg:o.guard=none)(hop:o.op=Op.makeSlice 22 l c)(n:Nat)(hl:a.eval l=.int kl A)(hc:a.eval c=.int kc C)(hA:A=(n:Int))(hC:C=(n:Int))(hn:n<=1000)
 (hK:∀w',qAf w' w.heap.size 3 ((List.replicate n 0).map zv)->Below w.heap.size w w'->w.heap.size<w'.heap.size->wpList Tryz.prog ops Q rest (a.put o.dst (.slice (some ⟨w.heap.size,0,none⟩) n n)) w'):wpList Tryz.prog ops Q (o::rest) a w:=by
 obtain⟨i,hi,hz0,hz1,hz2⟩:=info_parts qSi;refine qBb w hg l c _ hop 3 i _ Tryz.underlying22 hi hz0 kl kc A C n hl hc hA hC (by rw[hz2];omega) (by omega) (fun w' h1 h2 h3=> ?_);rw[hz1,qHD _ _ rfl]at h1;exact hK w' (by rw[List.map_replicate];exact h1) h2 h3
def lnZ(k:Nat):List Value:=(List.replicate k ()).flatMap (fun _=>[Value.slice none 0 0,.int .i64 0])
theorem qDw(k:Nat):lnZ (k+1)=.slice none 0 0::.int .i64 0::lnZ k:=by simp[lnZ,List.replicate_succ]
theorem qJP(k:Nat):(lnZ k).length=k*2:=by
 induction k with
 |zero=>rfl
 |succ k ih=>rw[qDw];simp[ih];omega
theorem qNb:∀(n k:Nat),k<n*2->(lnZ n)[k]? =some (#[Value.slice none 0 0,.int .i64 0][k%2]!)
 |n+1,0,_=>by rw[qDw];rfl
 |n+1,1,_=>by rw[qDw];rfl
 |n+1,k+2,h=>by
  rw[qDw,List.getElem?_cons_succ,List.getElem?_cons_succ,qNb n k (by omega),show(k+2)%2=k%2 by omega]
theorem qEx(hg:o.guard=none)(hop:o.op=Op.makeSlice 185 l c)(n:Nat)(hl:a.eval l=.int kl A)(hc:a.eval c=.int kc C)(hA:A=(n:Int))(hC:C=(n:Int))(hn:n<=1000)
 (hK:∀w',qAf w' w.heap.size 230 (lnZ n)->Below w.heap.size w w'->w.heap.size<w'.heap.size->wpList Tryz.prog ops Q rest (a.put o.dst (.slice (some ⟨w.heap.size,0,none⟩) n n)) w'):wpList Tryz.prog ops Q (o::rest) a w:=by
 obtain⟨i,hi,hz0,hz1,hz2⟩:=info_parts qSh;refine qBb w hg l c _ hop 230 i _ Tryz.underlying185 hi hz0 kl kc A C n hl hc hA hC (by rw[hz2];omega) (by omega) (fun w' h1 h2 h3=> ?_);have e:(madeCells (Value.agg #[.slice none 0 0,.int .i64 0]).cells (n*2)).toList=lnZ n:=by
  refine List.ext_getElem? (fun k=> ?_);rcases Nat.lt_or_ge k (n*2)with h|h
  ·rw[qFV _ _ _ h,qNb n k h];rfl
  ·rw[List.getElem?_eq_none (by rw[qEf];omega),List.getElem?_eq_none (by rw[qJP];omega)]
 rw[hz1,e]at h1;exact hK w' h1 h2 h3
end
def rwZ(n:Nat)(l:List Rw)(k:Nat):List Value:=l.map (rwC n)++List.replicate k (.slice none 0 0)
theorem qIl{n k:Nat}{l:List Rw}:∀u∈rwZ n l k,∀x,u≠ .int .u32 x:=by
 intro u hu x;rcases List.mem_append.1 hu with h|h
 ·exact qIm u h x
 ·rw[(List.mem_replicate.1 h).2];intro e;cases e
theorem qP8{n k g:Nat}{l:List Rw}(c:Nat):(rwZ n l (k+1)).set l.length (.slice (some ⟨g,0,none⟩) n c)=rwZ n (l++[(g,c)]) k:=by
 unfold rwZ;rw[List.set_append_right _ _ (by simp)];simp[List.replicate_succ,rwC]
theorem qMB{n k i:Nat}{l:List Rw}(hi:i<l.length):(rwZ n l k)[i]? =some (.slice (some ⟨l[i].1,0,none⟩) n l[i].2):=by
 unfold rwZ;rw[List.getElem?_append_left (by simpa using hi)];simp[hi,rwC]
theorem qFH{n k:Nat}{l:List Rw}:(rwZ n l (k+1))[l.length]? =some (.slice none 0 0):=by
 unfold rwZ;rw[List.getElem?_append_right (by simp)];simp[List.replicate_succ]
theorem qAY{S:Nat->Prop}{B:Nat}{w0 w w':World}(hb:Below B w0 w)(h:qAc S w w')(hS:∀k,S k->B<=k)(hB:B<=w.heap.size):Below B w0 w':=qAc.below h hb hB hS
theorem qKB{n k g j:Nat}{l:List Rw}(c:Nat)(h:l.length=j):(rwZ n l (k+1)).set j (.slice (some ⟨g,0,none⟩) n c)=rwZ n (l++[(g,c)]) k:=by subst h;exact qP8 c
theorem qDo{α:Type}{P:α->Prop}{l:List α}{x:α}(h:∀k (hk:k<l.length),P l[k])(hx:P x):∀k (hk:k<(l++[x]).length),P ((l++[x])[k]):=by
 intro k hk;rw[List.getElem_append]
 split
 ·next h2=>exact h k h2
 ·next h2=>simpa using hx
structure RwX(w:World)(R:Nat)(l:List Rw)(n:Nat)(M:List (List Int))(j:Nat):Prop where
 blk:qAf w R 77 (l.map (rwC n))
 len:M.length=l.length
 row:∀i (h:i<l.length),i≠j->qAC w l[i].1 (M[i]'(by omega))/\(M[i]'(by omega)).length=n
 nodup:∀i j (h:i<l.length) (h':j<l.length),i≠j->l[i].1≠l[j].1
 cap:∀i (h:i<l.length),n<=l[i].2/\l[i].2<=9223372036854775807
 apart:∀i (h:i<l.length),l[i].1≠R
section
variable {w w':World}{R n j:Nat}{l:List Rw}{M:List (List Int)}
theorem qCX.x(h:qCX w R l n M)(j:Nat):RwX w R l n M j:=⟨h.blk,h.len,fun i hi _=>h.rows.row i hi,h.rows.nodup,h.rows.cap,h.apart⟩
theorem RwX.blw(h:RwX w R l n M j)(hb:Below w.heap.size w w'):RwX w' R l n M j:=⟨h.blk.blw hb,h.len,fun i hi hij=>⟨(h.row i hi hij).1.blw hb,(h.row i hi hij).2⟩,h.nodup,h.cap,h.apart⟩
instance:Mv w w' (RwX w R l n M j) (RwX w' R l n M j):=⟨fun hb h=>RwX.blw h hb⟩
theorem RwX.only{S:Nat->Prop}(h:RwX w R l n M j)(ho:qAc S w w')(hS:∀b,S b->qAi w b)(hr:¬S R/\∀i (hi:i<l.length),i≠j->¬S l[i].1):RwX w' R l n M j:=
 ⟨h.blk.only ho hr.1,h.len,fun i hi hij=>⟨(h.row i hi hij).1.only ho hS (hr.2 i hi hij),(h.row i hi hij).2⟩,h.nodup,h.cap,h.apart⟩
theorem RwX.off{g o1 o2:Nat}{s:Bool}{a:Option Addr}{n' c:Nat}(h:RwX w R l n M j)(hg:qAi w g)(hr:R≠g/\∀i (hi:i<l.length),i≠j->l[i].1≠g):RwX (st2 w g o1 o2 s a n' c) R l n M j:=
 h.only (S:=fun b=>b=g) ((qAc.refl _ _).off' (.inl rfl)) (fun b e=>e▸hg) hr
theorem RwX.lt(h:RwX w R l n M j):R<w.heap.size:=h.blk.lt
theorem RwX.get(h:RwX w R l n M j)(i:Nat)(hi:i<l.length):w.cell? ⟨R,i,none⟩=some (.slice (some ⟨l[i].1,0,none⟩) n l[i].2):=by
 rw[h.blk.cell];simp[hi,rwC]
theorem RwX.close(h:RwX w R l n M j)(hj:j<l.length){zs:List Int}(hr:qAC w l[j].1 zs)(hz:zs.length=n):qCX w R l n (M.set j zs):=by
 refine⟨h.blk,⟨by rw[List.length_set];exact h.len,fun i hi=> ?_,h.nodup,h.cap⟩,h.apart⟩;by_cases e:i=j
 ·subst e
  rw[List.getElem_set_self];exact⟨hr,hz⟩
 ·rw[List.getElem_set_ne (Ne.symm e)]
  exact h.row i hi e
end
theorem qCX.off9{w:World}{R n g o1 o2:Nat}{l:List Rw}{M:List (List Int)}{s:Bool}{a:Option Addr}{n' c:Nat}(h:qCX w R l n M)(hg:qAi w g)(hr:R≠g/\∀i (hi:i<l.length),l[i].1≠g):qCX (st2 w g o1 o2 s a n' c) R l n M:=
 h.only (S:=fun b=>b=g) ((qAc.refl _ _).off' (.inl rfl)) (fun b e=>e▸hg) hr.1 hr.2
def qH4(z:Int):Prop:= -9223372036854775808<=z/\z<=9223372036854775807
theorem qGW{z:Int}(h:qH4 z):qCn z=.tuple #[.int .i64 z,.bool true]:=if_pos h
theorem qGV{z:Int}(h:¬qH4 z):qCn z=.tuple #[.int .i64 0,.bool false]:=if_neg h
def rwI(x:Nat×Nat):Value:=.slice (some ⟨x.1,0,none⟩) x.2 x.2
def qL9(l:List (Nat×Nat))(k:Nat):List Value:=l.map rwI++List.replicate k (.slice none 0 0)
theorem qLw{k:Nat}{l:List (Nat×Nat)}:∀u∈qL9 l k,∀x,u≠ .int .u32 x:=by
 intro u hu x;rcases List.mem_append.1 hu with h|h
 ·obtain⟨y,_,rfl⟩:=List.mem_map.1 h
  intro e;cases e
 ·rw[(List.mem_replicate.1 h).2];intro e;cases e
theorem qOw{k g j:Nat}{l:List (Nat×Nat)}(c:Nat)(h:l.length=j):(qL9 l (k+1)).set j (.slice (some ⟨g,0,none⟩) c c)=qL9 (l++[(g,c)]) k:=by
 subst h;unfold qL9;rw[List.set_append_right _ _ (by simp)];simp[List.replicate_succ,rwI]
theorem qMD{k i:Nat}{l:List (Nat×Nat)}(hi:i<l.length):(qL9 l k)[i]? =some (.slice (some ⟨l[i].1,0,none⟩) l[i].2 l[i].2):=by
 unfold qL9;rw[List.getElem?_append_left (by simpa using hi)];simp[hi,rwI]
theorem qMC{k j:Nat}{l:List (Nat×Nat)}(h:l.length=j):(qL9 l (k+1))[j]? =some (.slice none 0 0):=by
 subst h;unfold qL9;rw[List.getElem?_append_right (by simp)];simp[List.replicate_succ]
theorem qKo{l:List Int}:∀u∈l.map zv,∀x,u≠ .int .u32 x:=by
 intro u hu x;obtain⟨y,_,rfl⟩:=List.mem_map.1 hu;intro e;cases e
theorem qRg{r:List Int}{q:Nat}(hq:q<r.length):((r.take q++(List.replicate r.length 0).drop q).map zv).set q (.int .i64 r[q])=(r.take (q+1)++(List.replicate r.length 0).drop (q+1)).map zv:=by
 rw[<-qCW (by simp) (by simpa using hq),List.map_set];rfl
structure qBm(w:World)(l:List (Nat×Nat))(M:List (List Int)):Prop where
 len:M.length=l.length
 row:∀i (h:i<l.length),qAf w l[i].1 3 ((M[i]'(by omega)).map zv)/\(M[i]'(by omega)).length=l[i].2
theorem qBm.nil(w:World):qBm w [] []:=⟨rfl,fun i h=>by simp at h⟩
theorem qBm.blw{w w':World}{l:List (Nat×Nat)}{M:List (List Int)}(h:qBm w l M)(hb:Below w.heap.size w w'):qBm w' l M:=⟨h.len,fun i hi=>⟨(h.row i hi).1.blw hb,(h.row i hi).2⟩⟩
instance {w w':World} {l:List (Nat×Nat)} {M:List (List Int)}:Mv w w' (qBm w l M) (qBm w' l M):=⟨fun hb h=>qBm.blw h hb⟩
theorem qBm.only{w w':World}{S:Nat->Prop}{l:List (Nat×Nat)}{M:List (List Int)}(h:qBm w l M)(ho:qAc S w w')(_:∀b,S b->qAi w b)(hr:∀i (hi:i<l.length),¬S l[i].1):qBm w' l M:=⟨h.len,fun i hi=>⟨(h.row i hi).1.only ho (hr i hi),(h.row i hi).2⟩⟩
theorem qBm.lt{w:World}{l:List (Nat×Nat)}{M:List (List Int)}(h:qBm w l M)(i:Nat)(hi:i<l.length):l[i].1<w.heap.size:=(h.row i hi).1.lt
theorem qBm.snoc{w:World}{l:List (Nat×Nat)}{M:List (List Int)}(h:qBm w l M){g:Nat}{r:List Int}(hr:qAf w g 3 (r.map zv)):qBm w (l++[(g,r.length)]) (M++[r]):=by
 have hl:=h.len;refine⟨by simp[hl],fun i hi=> ?_⟩;simp only[List.length_append,List.length_singleton]at hi;by_cases e:i<l.length
 ·rw[List.getElem_append_left e,List.getElem_append_left (by omega)];exact h.row i e
 ·obtain rfl:i=l.length:=by omega
  rw[List.getElem_append_right (by omega),List.getElem_append_right (by omega)];simp only[hl,Nat.sub_self,List.getElem_singleton];exact⟨hr,trivial⟩
theorem qBm.mat{w:World}{R n:Nat}{l:List (Nat×Nat)}{M:List (List Int)}(h:qBm w l M)(hb:qAf w R 22 (qL9 l 0))(hc:∀r∈M,r.length<=9223372036854775807)(hn:M.length<=n)(hn2:n<=9223372036854775807):qA8 w (.slice (some ⟨R,0,none⟩) M.length n) M:=by
 refine⟨_,n,rfl,hn,hn2,fun _=>⟨R,rfl,hb.lt,fun j hj=> ?_⟩⟩;have hj':j<l.length:=by rw[<-h.len];exact hj
 obtain⟨h1,h2⟩:=h.row j hj';refine⟨_,⟨_,rfl,qCg h1 (Nat.le_refl _) (hc _ (List.getElem_mem _))⟩,rfl,fun i hi=> ?_⟩;obtain rfl:i=0:=by omega
 rw[hb.cell,Nat.mul_one,Nat.add_zero,qMD hj',<-h2];rfl
theorem qLt(v:Value)(M:List (List Int))(w0:World)(h:qJk w0 v M)(hm:M.length<=1000)(hc:∀r∈M,r.length<=1000)(hs:∀r∈M,∀x∈r,Sz 16000 x):
 Calls Tryz.prog 68 #[v] w0 fun e w'=>Below w0.heap.size w0 w'/\((e=.returned (.tuple #[.slice none 0 0,.int .i64 4])/\∃r∈M,∃x∈r,¬qH4 x)\/ ∃u,e=.returned (.tuple #[u,.int .i64 0])/\qA8 w' u M/\∀r∈M,∀x∈r,qH4 x):=by
 have H:=hZ h;obtain⟨av,cv,rfl,q1,q2⟩:=qAb.form h;have Hc:=hZ hc;have Hs:=hZ hs;have HB:=hZ (Below.refl w0.heap.size w0);clear h hc hs
 go_enter Tryz.func68,Tryz.ntmps68
 go_wp2_with (at_make;refine qC5 rfl rfl (M.length) rfl rfl rfl rfl (by omega) ?_)
 intro w1 h_9 hB hlt9;obtain⟨R,hb⟩:=eX w0.heap.size;rw[hb]at h_9 ⊢;have Ob':=hZ h_9;have hge_R:Hid (w0.heap.size<=R):=hZ (Nat.le_of_eq hb);have hlt_R:Hid (R<w1.heap.size):=hZ (by rw[<-hb];exact hlt9);clear h_9 hb hlt9;replace HB:=bT HB hB;clear hB;have Ob:=Ob';clear Ob'
 go_wp2_with fail
 have HgR:Hid (w0.heap.size<=R):=hZ hge_R.o;clear hge_R hlt_R
 go_loopw [16] (fun i wr=>∃(j:Nat) (l:List (Nat×Nat)),j<=M.length/\i=.int .i64 j/\Hid (l.length=j/\(∀k (h:k<l.length),R<l[k].1))/\Hid (∀r∈M.take j,∀x∈r,qH4 x)/\Hid (qAf wr R 22 (qL9 l (M.length-j)))/\Hid (qBm wr l (M.take j))/\Hid (Below w0.heap.size w0 wr)) (fun i _=>M.length-(intOf i).toNat)
 case atStart=>exact⟨0,[],by omega,rfl,hZ ⟨rfl,fun k h=>by simp at h⟩,hZ (by simp),hZ (by simpa[qL9]using Ob.o),hZ (qBm.nil _),HB⟩
 case round=>
  clear HB Ob;obtain⟨j,l,hj,rfl,HL,HF,Ob,II,HB⟩:=hrel;obtain⟨w1,rfl⟩:=eY wr;by_cases hlt:j<M.length
  ·skip
   obtain⟨b,cap,a,c,hv,hb,n1,HI,g1,g2⟩:=H.o.at_ j hlt;injection hv with f1 f2 f3;subst f1;clear f2 f3;have HI:=hZ HI;have Hr:Hid (M[j].length<=1000):=hZ (Hc.o _ (List.getElem_mem hlt));have Hsr:Hid (∀x∈M[j],Sz 16000 x):=hZ (Hs.o _ (List.getElem_mem hlt));have Hmem:Hid (M[j]∈M):=hZ (List.getElem_mem hlt);have HM:Hid (M.take (j+1)=M.take j++[M[j]]):=hZ (by rw[List.take_succ_eq_append_getElem hlt]);replace n1:=(HB.o.cell (p:=⟨b,j,none⟩) hb).trans n1;generalize M[j]=r at *;have hr1:=Hr.o;have i1:(0:Int)<=(j:Int):=by omega
   have i2:(j:Int)<(M.length:Int):=by omega
   go_wp2_with (at_make;refine qBq rfl rfl (r.length) rfl rfl rfl rfl (by omega) ?_)
   intro w2 h_9 hB hlt9;obtain⟨g,hb⟩:=eX w1.heap.size;rw[hb]at h_9 ⊢;have Oc':=hZ h_9;have hge_g:Hid (w1.heap.size<=g):=hZ (Nat.le_of_eq hb);have hlt_g:Hid (g<w2.heap.size):=hZ (by rw[<-hb];exact hlt9);have HLg:Hid ((∀k (h:k<l.length),l[k].1<g)/\R<g):=hZ ⟨fun k h=>by rw[<-hb];exact II.o.lt k h,by rw[<-hb];exact Ob.o.lt⟩;clear h_9 hb hlt9;replace Ob:=Ob.b hB;replace II:=II.b hB;replace HB:=bT HB hB;clear hB;have Oc:=Oc';clear Oc';have HGG:Hid (w0.heap.size<=g):=hZ (by have:=HLg.o.2;have:=HgR.o;omega);clear hge_g hlt_g;have Hk:Hid (M.length-j=(M.length-(j+1))+1):=hZ (by omega);rw[Hk.o]at Ob;have e0:w2.cell? ⟨R,j,none⟩=some (.slice none 0 0):=(Ob.o.cell j).trans (qMC HL.o.1);have e2:=Ob.o.frozen (j);obtain⟨w3,hw⟩:=eX (w2.setCell ⟨R,j,none⟩ (.slice (some ⟨g,0,none⟩) r.length r.length));have ho:qAc (fun b=>b=R) w2 w3:=by rw[<-hw];exact(qAc.refl (fun b=>b=R) _).set (p:=⟨R,j,none⟩) rfl _
   have hN:∀b,b=R->qAi w2 b:=fun b e=>e▸Ob.o.noInt qLw;replace Ob:=hZ ((by have h1:=Ob.o.set j (.slice (some ⟨g,0,none⟩) r.length r.length);rw[hw,qOw r.length HL.o.1]at h1;exact h1));replace II:=hZ (II.o.only ho hN (fun i hi=>by intro (e:_=R);have:=HL.o.2 i hi;omega));replace Oc:=hZ (Oc.o.only ho (by intro (e:_=R);have:=HLg.o.2;omega));replace HB:=hZ (qAY HB.o ho (fun b e=>by have:=HgR.o;omega) HB.o.size);clear ho hN
   go_wp2_with fail
   clear hw e0 e2;have HTl:Hid (r.length=(List.replicate r.length (0:Int)).length):=hZ (by simp)
   go_loopw [29] (fun i wr=>∃q:Nat,q<=r.length/\i=.int .i64 q/\Hid (∀x∈r.take q,qH4 x)/\Hid (qAf wr R 22 (qL9 (l++[(g,r.length)]) (M.length-(j+1))))/\Hid (qBm wr l (M.take j))/\Hid (qAf wr g 3 ((r.take q++(List.replicate r.length 0).drop q).map zv))/\Hid (Below w0.heap.size w0 wr)) (fun i _=>r.length-(intOf i).toNat)
   case atStart=>exact⟨0,by omega,rfl,hZ (by simp),Ob,II,hZ (by simpa using Oc.o),HB⟩
   case round=>
    clear Ob II Oc HB;obtain⟨q,hq,rfl,HFr,Ob,II,Oc,HB⟩:=hrel;obtain⟨w3,rfl⟩:=eY wr;by_cases hql:q<r.length
    ·skip
     have i3:(0:Int)<=(q:Int):=by omega
     have i4:(q:Int)<(r.length:Int):=by omega
     obtain⟨b9,c9,s_h,a_h,n_h,c_h,hv9,hb9,d0h,d1h,h_h⟩:=(HI.o.blw HB.o).at_ q hql;injection hv9 with f1 f2 f3;subst f1;clear f2 f3;obtain⟨z,hz⟩:=eX (r[q]);rw[hz]at h_h;have Vh:=hZ h_h;have Sh:Hid (Sz 16000 z):=hZ (hz▸Hsr.o _ (List.getElem_mem _));have Hz:=hZ hz;have Hzm:Hid (z∈r):=hZ (hz▸List.getElem_mem _);clear h_h hz hb9;have hgl:=Oc.o.lt;obtain⟨w4,hw⟩:=eX ((w3.alloc (.cells #[.bool s_h,.slice a_h n_h c_h] 73)));have hB:=aB hw;obtain⟨bh,hb_bh⟩:=eX w3.heap.size;have h9:=Bx.new (w:=w3) Vh.o;rw[hw,hb_bh]at h9;have Fh':=hZ h9;have hge_bh:w3.heap.size<=bh:=by omega
     clear h9;replace Ob:=Ob.b hB;replace II:=II.b hB;replace Oc:=Oc.b hB;replace Vh:=Vh.b hB;replace HB:=bT HB hB;have Fh:=Fh';clear Fh';clear hB;have hgb:g<bh:=by omega
     clear hgl;obtain⟨s_p,a_p,n_p,c_p,t_p,h_p⟩:=Fh.o;have d0p:=t_p.cell0;have d1p:=t_p.cell1;have Vp:=hZ h_p;clear t_p h_p
     go_wp2_with fail
     clear hw hb_bh d0h d1h;clear d0p d1p;by_cases hf:qH4 z
     ·skip
      refine(qD8 _ _ w4 Vp.o (Sh.o.lim (by omega))).mono ?_;rintro e w5 ⟨he,hB⟩;rw[qGW hf]at he;subst he;replace Ob:=Ob.b hB;replace II:=II.b hB;replace Oc:=Oc.b hB;replace Vh:=Vh.b hB;replace Fh:=Fh.b hB;replace Vp:=Vp.b hB;replace HB:=bT HB hB;clear hB;clear Fh Vp Vh;have e0:w5.cell? ⟨R,j,none⟩=some (.slice (some ⟨g,0,none⟩) r.length r.length):=(Ob.o.cell j).trans (by have h1:=HL.o.1;subst h1;rw[qMD (by simp)];simp);obtain⟨u9,e1⟩:∃u,w5.cell? ⟨g,q,none⟩=some u:=⟨_,(Oc.o.cell q).trans (List.getElem?_eq_getElem (by simp;omega))⟩;have e2:=Oc.o.frozen (q);obtain⟨w6,hw⟩:=eX (w5.setCell ⟨g,q,none⟩ (.int .i64 z));have ho:qAc (fun b=>b=g) w5 w6:=by rw[<-hw];exact(qAc.refl (fun b=>b=g) _).set (p:=⟨g,q,none⟩) rfl _
      have hN:∀b,b=g->qAi w5 b:=fun b e=>e▸Oc.o.noInt qKo;replace Oc:=hZ ((by have h1:=Oc.o.set q (.int .i64 z);rw[hw]at h1;have h2:=qRg hql;rw[Hz.o]at h2;rw[h2]at h1;exact h1));replace Ob:=hZ (Ob.o.only ho (by intro (e:_=g);have:=HLg.o.2;omega));replace II:=hZ (II.o.only ho hN (fun i hi=>by intro (e:_=g);have:=HLg.o.1 i hi;omega));replace HB:=hZ (qAY HB.o ho (fun b e=>by have:=HGG.o;omega) HB.o.size);clear ho hN
      go_wp2_with fail
      go_roundw
      case rel=>exact⟨q+1,by omega,by go_num,hZ (by rw[List.take_succ_eq_append_getElem hql];intro s hs;rcases List.mem_append.1 hs with h|h;exact HFr.o s h;rw[List.mem_singleton.1 h,Hz.o];exact hf),Ob,II,Oc,HB⟩
      case measure=>simp[intOf];omega
     ·skip
      refine(qD8 _ _ w4 Vp.o (Sh.o.lim (by omega))).mono ?_;rintro e w5 ⟨he,hB⟩;rw[qGV hf]at he;subst he;replace Ob:=Ob.b hB;replace II:=II.b hB;replace Oc:=Oc.b hB;replace Vh:=Vh.b hB;replace Fh:=Fh.b hB;replace Vp:=Vp.b hB;replace HB:=bT HB hB;clear hB
      go_wp2_with fail
      exact bodyPost_ret (v:=.tuple #[.slice none 0 0,.int .i64 4]) (by simp[results,Tryz.results68,go_sem]) rfl ⟨HB.o,.inl ⟨rfl,r,Hmem.o,z,Hzm.o,hf⟩⟩
    ·skip
     obtain rfl:q=r.length:=by omega
     go_wp2_with fail
     go_roundw
     case rel=>
      have hR:=Oc.o;rw[List.take_of_length_le (Nat.le_refl _),List.drop_eq_nil_of_le (by simp),List.append_nil]at hR;have hF:=HFr.o;rw[List.take_of_length_le (Nat.le_refl _)]at hF;exact⟨j+1,l++[(g,r.length)],by omega,by go_num,hZ ⟨by have:=HL.o.1;simp;omega,qDo (P:=fun(x:Nat×Nat)=>R<x.1) HL.o.2 HLg.o.2⟩,hZ (by rw[HM.o];intro s hs;rcases List.mem_append.1 hs with h|h;exact HF.o s h;rw[List.mem_singleton.1 h];exact hF),Ob,hZ (by rw[HM.o];exact II.o.snoc hR),HB⟩
     case measure=>simp[intOf];omega
  ·skip
   obtain rfl:j=M.length:=by omega
   go_wp2_with fail
   have h1:=Ob.o;rw[Nat.sub_self]at h1;have h2:=II.o;rw[List.take_of_length_le (Nat.le_refl _)]at h2;have h3:=HF.o;rw[List.take_of_length_le (Nat.le_refl _)]at h3;exact bodyPost_ret (v:=.tuple #[.slice (some ⟨R,0,none⟩) M.length M.length,.int .i64 0]) (by simp[results,Tryz.results68,go_sem]) rfl ⟨HB.o,.inr ⟨_,rfl,h2.mat h1 (fun r hr=>by have:=Hc.o r hr;omega) (Nat.le_refl _) (by omega),h3⟩⟩
end Go.Proofs.YtkjhlkngihponaaGreatDoor
