/- lattice.eliminate. -/
import Derived.Test.YtkjhlkngihponaaGreatDoorQKRegFree
import Derived.Test.YtkjhlkngihponaaGreatDoorQKLOwn
import Derived.Test.YtkjhlkngihponaaGreatDoorQKLBez
import Derived.Test.YtkjhlkngihponaaGreatDoorQKLRow
import Derived.Test.YtkjhlkngihponaaGreatDoorQKLSmall
set_option linter.unusedVariables false
set_option linter.unusedSimpArgs false
set_option maxHeartbeats 8000000
set_option maxRecDepth 100000
namespace Go.Proofs.YtkjhlkngihponaaGreatDoor

def sh(c:Nat)(v:Vec):Vec:=fun j=>v (c+j)
theorem qKe(c:Nat):∀(q:List Int) (L:List Vec) (j:Nat),comb q (L.map (sh c)) j=comb q L (c+j)
 |[],L,j=>by cases L<;>simp[comb]
 |x::q,[],j=>by simp[comb]
 |x::q,r::L,j=>by
  simp only[List.map_cons,comb,qKe c q L j];rfl
theorem qP4{c:Nat}{L:List Vec}{v:Vec}:qAa (L.map (sh c)) v ↔ ∃u,qAa L u/\∀j,v j=u (c+j):=by
 constructor
 ·rintro⟨q,hq⟩
  exact⟨comb q L,⟨q,fun _=>rfl⟩,fun j=>by rw[hq,qKe]⟩
 ·rintro⟨u,⟨q,hq⟩,hv⟩
  exact⟨q,fun j=>by rw[hv,hq,qKe]⟩
theorem Nrm.shift{c:Nat}:∀{lo:Nat} {L:List Vec},Nrm lo L->c<=lo->Nrm (lo-c) (L.map (sh c))
 |_,[],_,_=>trivial
 |lo,r::rs,⟨p,h1,h2,h3,h4,h5⟩,hc=>by
  have e:c+(p-c)=p:=by omega
  refine⟨p-c,by omega,⟨fun j hj=>h2.1 _ (by omega),by show r (c+(p-c))≠0;rw[e];exact h2.2⟩,by show 0<r (c+(p-c));rw[e];exact h3,?_,fun s hs e hp=> ?_⟩
  ·have:=h4.shift (c:=c) (by omega)
   rwa [show p-c+1=p+1-c by omega]
  ·obtain⟨s',hs',rfl⟩:=List.mem_map.1 hs
   refine h5 s' hs' (c+e) ⟨fun j hj=> ?_,hp.2⟩;rcases Nat.lt_or_ge j c with h|h
   ·exact h4.low (InsSp hs') j (by omega)
   ·have:=hp.1 (j-c) (by omega)
    unfold sh at this
    rwa [show c+(j-c)=j by omega]at this
where InsSp {L:List Vec} {v:Vec} (h:v∈L):qAa L v:=qAa.mem h
theorem qRm{c:Nat}{u:Vec}(h0:∀j,j<c->u j=0):∀(k:Nat) {lo:Nat} {V:List Vec},Nrm lo V->(∀i (h:i<V.length),i<k->∃p,p<c/\qC2 V[i] p)->qAa V u->qAa (V.drop k) u
 |0,_,V,_,_,h=>by simpa using h
 |k+1,_,[],_,_,h=>by simpa using h
 |k+1,_,r::rs,⟨p,h1,h2,h3,h4,h5⟩,hp,h=>by
  obtain⟨p',hp1,hp2⟩:=hp 0 (by simp) (by omega);obtain rfl:=h2.uniq hp2;have:=Nrm.tail h2.2 h4 h (h0 _ hp1);simpa using qRm h0 k h4 (fun i hi hk=>hp (i+1) (by simpa using hi) (by omega)) this
structure qAW(A:List Vec)(c:Nat)(H:List Vec):Prop where
 nrm:Nrm 0 H
 span:∀v,qAa H v ↔ ∃u,qAa A u/\(∀j,j<c->u j=0)/\∀j,v j=u (c+j)
theorem qAW.uniq{A:List Vec}{c:Nat}{H H':List Vec}(h:qAW A c H)(h':qAW A c H'):H=H':=
 h.nrm.uniq h'.nrm (fun v hv=>(h'.span v).2 ((h.span v).1 hv)) (fun v hv=>(h.span v).2 ((h'.span v).1 hv))
theorem qAW.mem{A B:List Vec}{c:Nat}{H:List Vec}(h:qAW A c H)(hm:∀r,r∈A ↔ r∈B):qAW B c H:=
 ⟨h.nrm,fun v=>(h.span v).trans ⟨fun⟨u,h1,h2⟩=>⟨u,h1.trans (fun r hr=>qAa.mem ((hm r).1 hr)),h2⟩,fun⟨u,h1,h2⟩=>⟨u,h1.trans (fun r hr=>qAa.mem ((hm r).2 hr)),h2⟩⟩⟩
section
variable {A M Sq V:List Vec}{ps:List Nat}{d:Int}{col:Nat}
theorem qB4.norm_none(h:qB4 A M ps d col)(h0:∀i (h:i<M.length),ps.length<=i->∀j,M[i] j=0){c:Nat}(hc:∀p∈ps,p<c):qAW A c []:=by
 refine⟨trivial,fun v=>⟨fun hv=>⟨fun _=>0,qAa.zero,fun _ _=>rfl,fun j=>qDn hv j⟩,fun⟨u,h1,h2,h3⟩=>qAa.zero.congr (fun j=> ?_)⟩⟩;rw[h3];have h4:=h.coord h0 h1 (c+j);rw[qBs _ _ _ _ (fun t ht=>by
  have:res ps u (0+t)=0:=by
   rw[Nat.zero_add];unfold res
   split
   ·exact h2 _ (hc _ (List.getElem_mem _))
   ·rfl
  rw[this,Int.zero_mul])]at h4
 exact((Int.mul_eq_zero.1 h4).resolve_left h.d0).symm
theorem qB4.norm_some(h:qB4 A M ps d col)(h0:∀i (h:i<M.length),ps.length<=i->∀j,M[i] j=0)(ht:Tri ps.length Sq (A.map (res ps)))(hv:qRe V Sq M ps.length d){c k:Nat}(hk:k<ps.length)(h1:∀i (h:i<ps.length),i<k->ps[i]<c)(h2:c<=ps[k]):qAW A c ((V.drop k).map (sh c)):=by
 have hl:V.length=ps.length:=by rw[hv.len,ht.len]
 have hn:=h.extd_nrm h0 ht hv V.length 0 0 (by omega) (fun _=>Nat.zero_le _);rw[List.drop_zero]at hn;have hn2:=h.extd_nrm h0 ht hv (V.length-k) k c (by omega) (fun _=>h2);obtain⟨s1,s2⟩:=h.extd_span h0 ht hv;refine⟨by have:=hn2.shift (Nat.le_refl c);rwa [Nat.sub_self]at this,fun v=>qP4.trans ⟨?_,?_⟩⟩
 ·rintro⟨u,h3,h4⟩
  exact⟨u,s1 u (h3.trans (fun r hr=>qAa.mem (List.mem_of_mem_drop hr))),fun j hj=>hn2.low h3 j hj,h4⟩
 ·rintro⟨u,h3,h4,h5⟩
  refine⟨u,qRm h4 k hn (fun i hi hik=>⟨ps[i]'(by omega),h1 i (by omega) hik,(h.extd_low h0 ht hv i hi (by omega)).1⟩) (s2 u h3),h5⟩
end
theorem Tri.mem{n:Nat}{Sq R R':List Vec}(h:Tri n Sq R)(hm:∀r,r∈R ↔ r∈R'):Tri n Sq R':=
 ⟨h.len,h.low,h.pos,h.red,fun r hr=>(h.into r hr).trans (fun s hs=>qAa.mem ((hm s).1 hs)),fun r hr=>h.onto r ((hm r).2 hr)⟩
theorem qKW(u:Vec)(r:Vec)(j:Nat):∀(M:List Vec) (s:Nat),qBg u (M++[r]) s j=qBg u M s j+u (s+M.length)*r j
 |[],s=>by simp[qBg]
 |a::M,s=>by
  simp only[List.cons_append,qBg,qKW u r j M (s+1)];rw[show s+1+M.length=s+(a::M).length by simp;omega];omega
def qGv(s:List Int)(M:List (List Int))(k j:Nat):Int:=qBg (vec s) ((M.take k).map vec) 0 j
theorem qF8(s:List Int)(M:List (List Int))(k j:Nat)(hk:k<M.length):qGv s M (k+1) j=qGv s M k j+vec s k*vec M[k] j:=by
 unfold qGv;rw[List.take_succ_eq_append_getElem hk,List.map_append,List.map_singleton,qKW];simp[Nat.min_eq_left (Nat.le_of_lt hk)]
theorem qF7(s:List Int)(M:List (List Int))(j:Nat):qGv s M 0 j=0:=rfl
def qJ1(s:List Int)(M:List (List Int))(k:Nat)(d:Int)(c n:Nat):List Int:=(List.range n).map (fun j=>qGv s M k (c+j)/d)
theorem qFq{s:List Int}{M:List (List Int)}{k:Nat}{d:Int}{c n:Nat}:(qJ1 s M k d c n).length=n:=by simp[qJ1]
theorem qFk{L:List Vec}{u:Vec}:qAa L u ↔ ∃x:Vec,∀j,u j=qBg x L 0 j:=by
 have k1:∀(L:List Vec) (s:Nat) (x:Vec) (j:Nat),∃q:List Int,True:=fun _ _ _ _=>⟨[],trivial⟩;have a1:∀(L:List Vec) (s:Nat) (x:Vec) (j:Nat),qBg x L s j=comb ((List.range' s L.length).map x) L j:=by
  intro L
  induction L with
  |nil=>intro s x j;simp[qBg,comb]
  |cons r L ih=>intro s x j;simp only[qBg,List.length_cons,List.range'_succ,List.map_cons,comb];rw[ih]
 have a2:∀(L:List Vec) (q:List Int) (s:Nat) (x:Vec) (j:Nat),(∀i,x (s+i)=vec q i)->comb q L j=qBg x L s j:=by
  intro L
  induction L with
  |nil=>intro q s x j _;cases q<;>simp[comb,qBg]
  |cons r L ih=>
   intro q s x j h;cases q with
   |nil=>rw[qBs x j _ s (fun t ht=>by rw[h];simp[vec])];rfl
   |cons y q=>
    simp only[comb,qBg];rw[ih q (s+1) x j (fun i=>by rw[show s+1+i=s+(i+1) by omega,h];simp[vec])];have:=h 0;simp only[Nat.add_zero]at this;rw[this];simp[vec]
 constructor
 ·rintro⟨q,hq⟩
  exact⟨vec q,fun j=>by rw[hq,a2 L q 0 (vec q) j (fun i=>by rw[Nat.zero_add])]⟩
 ·rintro⟨x,hx⟩
  exact⟨_,fun j=>by rw[hx,a1]⟩
theorem qHP(x:Vec)(col t:Nat):∀(L:List Vec) (s:Nat),(∀i (h:i<L.length),L[i] col=if s+i=t then 1 else 0)->qBg x L s col=if s<=t/\t<s+L.length then x t else 0
 |[],s,_=>by
  simp only[qBg,List.length_nil,Nat.add_zero];rw[if_neg (by omega)]
 |r::L,s,h=>by
  simp only[qBg];rw[qHP x col t L (s+1) (fun i hi=>by
   have:=h (i+1) (by simpa using hi);rw[show s+1+i=s+(i+1) by omega];simpa using this)]
  have h0:=h 0 (by simp);simp only[List.getElem_cons_zero,Nat.add_zero]at h0;rw[h0];by_cases e:s=t
  ·subst e
   rw[if_pos rfl,if_neg (by omega),if_pos (by simp)];simp
  ·rw[if_neg e,Int.mul_zero,Int.zero_add]
   have:(s+1<=t/\t<s+1+L.length) ↔ (s<=t/\t<s+(r::L).length):=by simp only[List.length_cons];omega
   simp only[this]
structure qBL(m:List (List Int))(H:List Vec):Prop where
 nrm:Nrm 0 H
 span:∀v,qAa H v ↔ (∀j,m.length<=j->v j=0)/\∀j,qBg v (m.map vec) 0 j=0
theorem qBL.uniq{m:List (List Int)}{H H':List Vec}(h:qBL m H)(h':qBL m H'):H=H':=
 h.nrm.uniq h'.nrm (fun v hv=>(h'.span v).2 ((h.span v).1 hv)) (fun v hv=>(h.span v).2 ((h'.span v).1 hv))
def qCo(n:Nat)(r:List Int)(i:Nat):List Int:=r++(List.replicate n 0).set i 1
def qAN(m:List (List Int)):List (List Int):=m.mapIdx (fun i r=>qCo m.length r i)
theorem qAq(m:List (List Int)):(qAN m).length=m.length:=by simp[qAN]
theorem qBj(m:List (List Int))(i:Nat)(h:i<m.length):(qAN m)[i]'(by rw[qAq];exact h)=qCo m.length m[i] i:=by simp[qAN]
theorem qFw(l l':List Int)(j:Nat):vec (l++l') j=if j<l.length then vec l j else vec l' (j-l.length):=by
 unfold vec;by_cases h:j<l.length
 ·rw[if_pos h,List.getElem?_append_left h]
 ·rw[if_neg h,List.getElem?_append_right (by omega)]
theorem qHh(n i j:Nat)(hi:i<n):vec ((List.replicate n 0).set i 1) j=if i=j then 1 else 0:=by
 rw[qCt (by simpa using hi)];by_cases h:j=i
 ·rw[if_pos h,if_pos h.symm]
 ·rw[if_neg h,if_neg (Ne.symm h)]
  unfold vec;rcases Nat.lt_or_ge j n with h2|h2
  ·simp[h2]
  ·rw[List.getElem?_eq_none (by simpa using h2)];rfl
theorem qOV{m:List (List Int)}{c:Nat}(hc:∀r∈m,r.length=c){H:List Vec}(h:qAW ((qAN m).map vec) c H):qBL m H:=by
 have e1:∀(x:Vec) j,j<c->qBg x ((qAN m).map vec) 0 j=qBg x (m.map vec) 0 j:=by
  intro x j hj;have key:∀(L L':List Vec) (s:Nat),L.length=L'.length->(∀i (h:i<L.length) (h':i<L'.length),L[i] j=L'[i] j)->qBg x L s j=qBg x L' s j:=by
   intro L
   induction L with
   |nil=>intro L' s hl _;cases L' with
    |nil=>rfl
    |cons a b=>simp at hl
   |cons r L ih=>intro L' s hl he;cases L' with
    |nil=>simp at hl
    |cons r' L'=>
     simp only[qBg];rw[ih L' (s+1) (by simpa using hl) (fun i h h'=>he (i+1) (by simpa using h) (by simpa using h'))];have:=he 0 (by simp) (by simp);simp only[List.getElem_cons_zero]at this;rw[this]
  refine key _ _ 0 (by simp[qAq]) (fun i h h'=> ?_);simp only[List.length_map]at h';rw[List.getElem_map,List.getElem_map,qBj m i h',qCo,qFw,if_pos (by rw[hc _ (List.getElem_mem _)];exact hj)]
 have e2:∀(x:Vec) t,qBg x ((qAN m).map vec) 0 (c+t)=if t<m.length then x t else 0:=by
  intro x t;rw[qHP x (c+t) t _ 0 (fun i h=> ?_)]
  ·simp[qAq]
  ·simp only[List.length_map,qAq]at h
   rw[List.getElem_map,qBj m i h,qCo,qFw,hc _ (List.getElem_mem _),if_neg (by omega),show c+t-c=t by omega,qHh _ _ _ h,Nat.zero_add]
 have e3:∀(x y:Vec) j,(∀t,t<m.length->x t=y t)->qBg x (m.map vec) 0 j=qBg y (m.map vec) 0 j:=fun x y j h=>qCB _ _ _ _ _ (fun t _ h2=>h t (by simpa using h2));refine⟨h.nrm,fun v=>(h.span v).trans ⟨?_,?_⟩⟩
 ·rintro⟨u,h1,h2,h3⟩
  obtain⟨x,hx⟩:=qFk.1 h1;have h4:∀t,v t=if t<m.length then x t else 0:=fun t=>by rw[h3,hx,e2]
  refine⟨fun j hj=>by rw[h4,if_neg (by omega)],fun j=> ?_⟩;rcases Nat.lt_or_ge j c with hj|hj
  ·rw[e3 v x j (fun t ht=>by rw[h4,if_pos ht]),<-e1 x j hj,<-hx,h2 j hj]
  ·refine qBs _ _ _ _ (fun t ht=> ?_)
   rw[List.getElem_map,qAs (by rw[hc _ (List.getElem_mem _)];exact hj),Int.mul_zero]
 ·rintro⟨h1,h2⟩
  refine⟨qBg v ((qAN m).map vec) 0,qFk.2 ⟨v,fun _=>rfl⟩,fun j hj=>by rw[e1 v j hj,h2],fun j=> ?_⟩;rw[e2]
  split
  ·rfl
  ·exact h1 j (by omega)
def Ind(L:List Vec):Prop:=∀x:Vec,(∀j,qBg x L 0 j=0)->∀i,i<L.length->x i=0
def upd(x:Vec)(a:Nat)(v:Int):Vec:=fun i=>if i=a then v else x i
theorem qDX(x:Vec)(v:Int)(j:Nat):∀(L:List Vec) (s a:Nat) (h:a<L.length),qBg (upd x (s+a) v) L s j=qBg x L s j+(v-x (s+a))*L[a] j
 |r::L,s,0,h=>by
  simp only[qBg,List.getElem_cons_zero,Nat.add_zero];rw[qCB (upd x s v) x j L (s+1) (fun t h1 h2=>by unfold upd;rw[if_neg (by omega)])];have:upd x s v s=v:=by unfold upd;rw[if_pos rfl]
  rw[this,Int.sub_mul];omega
 |r::L,s,a+1,h=>by
  simp only[qBg,List.getElem_cons_succ];rw[show s+(a+1)=s+1+a by omega,qDX x v j L (s+1) a (by simpa using h)];have:upd x (s+1+a) v s=x s:=by unfold upd;rw[if_neg (by omega)]
  rw[this];omega
theorem qJ0(x:Vec)(w:Vec)(j:Nat):∀(L:List Vec) (s a:Nat) (h:a<L.length),qBg x (L.set a w) s j=qBg x L s j+x (s+a)*(w j-L[a] j)
 |r::L,s,0,h=>by
  simp only[qBg,List.set_cons_zero,List.getElem_cons_zero,Nat.add_zero];rw[Int.mul_sub];omega
 |r::L,s,a+1,h=>by
  simp only[qBg,List.set_cons_succ,List.getElem_cons_succ];rw[qJ0 x w j L (s+1) a (by simpa using h),show s+(a+1)=s+1+a by omega];omega
theorem Ind.swap{L:List Vec}{a b:Nat}(ha:a<L.length)(hb:b<L.length)(h:Ind L):Ind (qAH L a b ha hb):=by
 by_cases hab:a=b
 ·subst hab
  have:qAH L a a ha hb=L:=by
   refine List.ext_getElem (by rw[qAe]) (fun i h1 h2=> ?_);rw[qAx i h2]
   split
   ·next e=>subst e;rfl
   ·rfl
  rw[this];exact h
 intro x hx;have key:∀j,qBg (upd (upd x a (x b)) b (x a)) L 0 j=qBg x (qAH L a b ha hb) 0 j:=fun j=>by
  have e1:=qDX (upd x a (x b)) (x a) j L 0 b hb;have e2:=qDX x (x b) j L 0 a ha;rw[Nat.zero_add]at e1 e2;have e3:upd x a (x b) b=x b:=by unfold upd;rw[if_neg (Ne.symm hab)]
  rw[e3]at e1;unfold qAH;rw[qJ0 x L[a] j _ 0 b (by simpa using hb),qJ0 x L[b] j L 0 a ha,List.getElem_set_ne hab,Nat.zero_add,Nat.zero_add,e1,e2];rw[Int.mul_sub,Int.mul_sub,Int.sub_mul,Int.sub_mul];omega
 have h0:=h _ (fun j=>by rw[key];exact hx j);intro i hi;rw[qAe]at hi;by_cases h1:i=a
 ·subst h1
  have:=h0 b hb;unfold upd at this;simpa using this
 ·by_cases h2:i=b
  ·subst h2
   have:=h0 a ha;unfold upd at this;rw[if_neg hab,if_pos rfl]at this;exact this
  ·have:=h0 i hi
   unfold upd at this
   rwa [if_neg h2,if_neg h1]at this
theorem qLn{α:Type}(L:List α)(a b:Nat)(ha:a<L.length)(hb:b<L.length):qAH (qAH L a b ha hb) a b (by rw[qAe];exact ha) (by rw[qAe];exact hb)=L:=by
 refine List.ext_getElem (by rw[qAe,qAe]) (fun i h1 h2=> ?_);rw[qAx i (by rw[qAe];exact h2),qAx a ha,qAx b hb,qAx i h2];by_cases e1:i=b<;>by_cases e2:i=a<;>by_cases e3:a=b
 all_goals (try subst e1)<;>(try subst e2)<;>simp_all
theorem Ind.swap_iff{L:List Vec}{a b:Nat}(ha:a<L.length)(hb:b<L.length):Ind L ↔ Ind (qAH L a b ha hb):=
 ⟨fun h=>h.swap ha hb,fun h=>by
  have:=h.swap (a:=a) (b:=b) (by rw[qAe];exact ha) (by rw[qAe];exact hb)
  rwa [qLn]at this⟩
theorem Ind.step{L L':List Vec}{c:Int}{α β:Nat->Int}{p col:Nat}(hl:L'.length=L.length)(hp:p<L.length)(h:∀i (hi:i<L.length) (hi':i<L'.length) j,c*L'[i] j=α i*L[i] j+β i*L[p] j)(hα:∀i,i<L.length->i≠p->α i≠0)(hP:∀j,(L'[p]'(by omega)) j=L[p] j)(hcol:L[p] col≠0)(hL:Ind L):Ind L':=by
 intro y hy
 --the sum,by the old rows
 have key:∀(A A':List Vec) (s:Nat),A'.length=A.length->(∀i (hi:i<A.length) (hi':i<A'.length) j,c*A'[i] j=α (s+i)*A[i] j+β (s+i)*L[p] j)->∃q:Int,∀j,c*qBg y A' s j=qBg (fun i=>α i*y i) A s j+q*L[p] j:=by
  intro A
  induction A with
  |nil=>
   intro A' s hl _;cases A' with
   |nil=>exact⟨0,fun j=>by simp[qBg]⟩
   |cons a b=>simp at hl
  |cons r A ih=>
   intro A' s hl he;cases A' with
   |nil=>simp at hl
   |cons r' A'=>
    obtain⟨q,hq⟩:=ih A' (s+1) (by simpa using hl) (fun i hi hi' j=>by
     have:=he (i+1) (by simpa using hi) (by simpa using hi') j;rw[show s+1+i=s+(i+1) by omega];simpa using this)
    refine⟨q+y s*β s,fun j=> ?_⟩;have h0:=he 0 (by simp) (by simp) j;simp only[List.getElem_cons_zero,Nat.add_zero]at h0;simp only[qBg];have h1:=hq j;have h2:c*(y s*r' j)=y s*(α s*r j+β s*L[p] j):=by rw[<-h0];grind
    rw[Int.mul_add,h1,h2]
    grind
 obtain⟨q,hq⟩:=key L L' 0 hl (fun i hi hi' j=>by rw[Nat.zero_add];exact h i hi hi' j);have hz:=hL (upd (fun i=>α i*y i) p (α p*y p+q)) (fun j=>by
  have e:=qDX (fun i=>α i*y i) (α p*y p+q) j L 0 p hp;rw[Nat.zero_add]at e;rw[e,show α p*y p+q-α p*y p=q by omega,<-hq j,hy j,Int.mul_zero])
 have h1:∀i,i<L.length->i≠p->y i=0:=fun i hi hip=>by
  have:=hz i hi;unfold upd at this;rw[if_neg hip]at this;exact(Int.mul_eq_zero.1 this).resolve_left (hα i hi hip)
 intro i hi;rw[hl]at hi;by_cases hip:i=p
 ·subst hip
  --only the pivot's row is left
  have e:qBg y L' 0 col=y i*L'[i] col:=by
   have e2:=qDX y 0 col L' 0 i (by omega);rw[Nat.zero_add]at e2;rw[qBs (upd y i 0) col L' 0 (fun t ht=>by
    rw[Nat.zero_add];have:upd y i 0 t=0:=by
     unfold upd
     split
     ·rfl
     ·exact h1 t (by omega) (by assumption)
    rw[this,Int.zero_mul])]at e2
   rw[Int.zero_sub,Int.neg_mul]at e2;omega
  rw[hy col,hP]at e;exact(Int.mul_eq_zero.1 e.symm).resolve_right hcol
 ·exact h1 i hi hip
theorem qB4.ind{A M:List Vec}{ps:List Nat}{d:Int}{col:Nat}(h:qB4 A M ps d col)(h0:∀i (h:i<M.length),ps.length<=i->∀j,M[i] j=0):Ind M ↔ ps.length=M.length:=by
 have hle:ps.length<=M.length:=by have:=h.len;have:=h.le;omega
 constructor
 ·intro hI
  rcases Nat.lt_or_ge ps.length M.length with hlt|hge
  ·exfalso
   have:=hI (upd (fun _=>0) ps.length 1) (fun j=>by
    have e:=qDX (fun _=>0) 1 j M 0 ps.length hlt;rw[Nat.zero_add]at e;rw[e,h0 _ hlt (Nat.le_refl _) j,Int.mul_zero,qBs _ _ _ _ (fun t ht=>by simp)];rfl) ps.length hlt
   unfold upd at this;simp at this
  ·omega
 ·intro hk x hx i hi
  have hip:i<ps.length:=by omega
  have e:=hx ps[i];have e2:=qDX x 0 ps[i] M 0 i hi;rw[Nat.zero_add]at e2;rw[qBs (upd x i 0) ps[i] M 0 (fun t ht=>by
   rw[Nat.zero_add];by_cases hti:t=i
   ·subst hti;unfold upd;simp
   ·rw[h.diag t i ht (by omega) hip,if_neg hti,Int.mul_zero]),h.diag i i hi hip hip,if_pos rfl]at e2
  rw[Int.zero_sub,Int.neg_mul]at e2;have:x i*d=0:=by omega
  exact(Int.mul_eq_zero.1 this).resolve_right h.d0
theorem Ind.ker{m:List (List Int)}{H:List Vec}(h:qBL m H):Ind (m.map vec) ↔ H=[]:=by
 constructor
 ·intro hI
  cases H with
  |nil=>rfl
  |cons r H=>
   exfalso
   obtain⟨c,h1,h2,h3,h4⟩:=h.nrm;obtain⟨k1,k2⟩:=(h.span r).1 (qAa.mem (by simp));have:=hI r k2;rcases Nat.lt_or_ge c m.length with hc|hc
   ·exact h2.2 (this c (by simpa using hc))
   ·exact h2.2 (k1 c hc)
 ·rintro rfl x hx i hi
  have h1:=(h.span (fun j=>if j<m.length then x j else 0)).2 ⟨fun j hj=>if_neg (by omega),fun j=>by
   rw[<-hx j];exact qCB _ _ _ _ _ (fun t _ h2=>if_pos (by simpa using h2))⟩
  have:=qDn h1 i;simp only[List.length_map]at hi
  rwa [if_pos hi]at this
open Go.RowKit
theorem qAf.some_{w:World}{g:Nat}{t:TypeId}{cs:List Value}(h:qAf w g t cs)(o:Nat)(ho:o<cs.length):∃u,w.cell? ⟨g,o,none⟩=some u:=⟨cs[o],(h.cell o).trans (List.getElem?_eq_getElem ho)⟩
def ent(M:List (List Int))(i j:Nat):Int:=vec (M[i]?.getD []) j
theorem qNH{M:List (List Int)}{i j:Nat}(hi:i<M.length)(hj:j<M[i].length):ent M i j=M[i][j]:=by simp[ent,hi,vec,hj]
def qPw(w0:World)(B n:Nat)(l:List Ln)(M:List (List Int))(place col:Nat)(e:Ending)(w':World):Prop:=
 qAc (fun b=>b=B) w0 w'/\((e=.returned (.bool false)/\(∀q,place<=q->q<l.length->ent M q col=0)/\qCk w' B l n M)\/
  ∃i,∃hi:i<l.length,∃hp:place<l.length,∃hi':i<M.length,∃hp':place<M.length,place<=i/\ent M i col≠0/\e=.returned (.bool true)/\qCk w' B (qAH l place i hp hi) n (qAH M place i hp' hi'))
theorem qOT(w0:World)(B cB n place col:Nat)(l:List Ln)(M:List (List Int))(h:qCk w0 B l n M)(hl:l.length<=1000)(hcB:l.length<=cB)(hcB2:cB<=9223372036854775807)(hplace:place<=l.length)(hcol:col<n)(hn:n<=1000)(hS:∀r∈M,∀x∈r,Sz 4000 x):
 Calls Tryz.prog 180 #[.slice (some ⟨B,0,none⟩) l.length cB,.int .i64 place,.int .i64 col] w0 (qPw w0 B n l M place col):=by
 have K:=hZ h;have HB:=hZ (Below.refl w0.heap.size w0);have SZ:=hZ hS;have Hlen:=hZ h.len;have j1:(0:Int)<=(col:Int):=by omega
 have j2:(col:Int)<(n:Int):=by omega
 clear h hS
 go_enter Tryz.func180,Tryz.ntmps180
 go_wp2_with fail
 go_loopw [7] (fun i wr=>∃j:Nat,place<=j/\j<=l.length/\i=.int .i64 j/\Hid (∀q,place<=q->q<j->ent M q col=0)/\Hid (qCk wr B l n M)/\Hid (Below w0.heap.size w0 wr)) (fun i _=>l.length-(intOf i).toNat)
 case atStart=>exact⟨place,by omega,hplace,rfl,hZ (fun q h1 h2=>by omega),K,HB⟩
 case round=>
  clear K HB;obtain⟨j,hpj,hj,rfl,HZ,K,HB⟩:=hrel;obtain⟨w1,rfl⟩:=eY wr;by_cases hlt:j<l.length
  ·skip
   have i1:(0:Int)<=(j:Int):=by omega
   have i2:(j:Int)<(l.length:Int):=by omega
   have i3:(0:Int)<=(place:Int):=by omega
   have i4:(place:Int)<(l.length:Int):=by omega
   have hjm:j<M.length:=by have:=Hlen.o;omega
   have hpl:place<l.length:=by omega
   obtain⟨l0,l1⟩:=K.o.get j hlt;obtain⟨hrow,hrl⟩:=K.o.row j hlt;obtain⟨s_x,a_x,n_x,c_x,d0x,d1x,h_x⟩:=hrow.get col (by omega);have Vx:=hZ h_x;have He:Hid (ent M j col=(M[j]'hjm)[col]'(by omega)):=hZ (qNH hjm (by omega));have Sx:Hid (Sz 4000 ((M[j]'hjm)[col]'(by omega))):=hZ (SZ.o _ (List.getElem_mem _) _ (List.getElem_mem _));generalize (M[j]'hjm)[col]'(by omega)=x at *;clear h_x hrow hrl;obtain⟨g,hg⟩:=eX (l[j].1);obtain⟨cg,hcg⟩:=eX (l[j].2.1);obtain⟨ig,hig⟩:=eX (l[j].2.2);have Hg:=hZ (And.intro hg (And.intro hcg hig));rw[hg,hcg]at l0;rw[hig]at l1;rw[hg]at d0x d1x;clear hg hcg hig
   go_wp2_with fail
   clear d0x d1x l0 l1;by_cases hx:x=0
   ·skip
    refine(qAE (w:=w1) Vx.o Sx.o (by omega)).mono ?_;rintro e w2 ⟨he,hB⟩;rw[show qAV x 0=0 by rw[hx];exact qA7 0]at he;subst he;replace K:=K.b hB;replace Vx:=Vx.b hB;replace HB:=bT HB hB;clear hB
    go_wp2_with fail
    go_roundw
    case rel=>exact⟨j+1,by omega,by omega,by go_num,hZ (fun q h1 h2=>if h3:q<j then HZ.o q h1 h3 else by rw[show q=j by omega,He.o,hx]),K,HB⟩
    case measure=>simp[intOf];omega
   ·skip
    refine(qAE (w:=w1) Vx.o Sx.o (by omega)).mono ?_;rintro e w2 ⟨he,hB⟩;obtain⟨sgx,hs9,q0x,q1x⟩:=qBn (x:=x) hx;rw[hs9]at he;subst he;clear hs9;replace K:=K.b hB;replace Vx:=Vx.b hB;replace HB:=bT HB hB;clear hB
    go_wp2_with fail
    obtain⟨w3,hwd⟩:=eX w2.drew;have hB:=dB hwd;replace K:=K.b hB;replace Vx:=Vx.b hB;replace HB:=bT HB hB;clear hB;have HBr:Hid (qAc (fun b=>False) w3 w3):=hZ (qAc.refl _ _);refine qAU [13,15] (fun w'=>qAc (fun b=>False) w3 w') (by kernel_rfl) (by rw[hwd];exact qAc.refl _ _) (fun hHeld=> ?_);rw[hwd]at hHeld ⊢;clear hwd;obtain⟨l0,l1⟩:=K.o.get j hlt;rw[Hg.o.1,Hg.o.2.1]at l0;rw[Hg.o.2.2]at l1;obtain⟨m0,m1⟩:=K.o.get place hpl;obtain⟨g',hg⟩:=eX (l[place].1);obtain⟨cg',hcg⟩:=eX (l[place].2.1);obtain⟨ig',hig⟩:=eX (l[place].2.2);have Hg':=hZ (And.intro hg (And.intro hcg hig));rw[hg,hcg]at m0;rw[hig]at m1;clear hg hcg hig;refine pU 0 25 ?_;refine pU 1 26 ?_;refine pU 2 27 ?_;refine pU 3 28 ?_;refine pU 4 29 ?_;refine pU 5 30 ?_;refine pU 6 31 ?_;refine tV 7 32 (cF l0 K.o.lt) (cF l1 K.o.lt) ?_;refine pU 8 33 ?_;refine pU 9 34 ?_;refine pU 10 35 ?_;refine tV 11 36 (cF m0 K.o.lt) (cF m1 K.o.lt) ?_;refine pU 12 37 ?_;have f0:=K.o.frozen (place*2);have f1:=K.o.frozen (place*2+1);obtain⟨wA,hwA⟩:=eX ((w3.setCell ⟨B,place*2,none⟩ (.slice (some ⟨g,0,none⟩) n cg)).setCell ⟨B,place*2+1,none⟩ (.int .i64 ig));have hbA:qAf wA B 230 (((l.flatMap (lnC n)).set (place*2) (.slice (some ⟨g,0,none⟩) n cg)).set (place*2+1) (.int .i64 ig)):=by rw[<-hwA];exact(K.o.blk.set (place*2) (.slice (some ⟨g,0,none⟩) n cg)).set (place*2+1) (.int .i64 ig)
    obtain⟨u0,hu0⟩:=hbA.some_ (j*2) (by rw[List.length_set,List.length_set,qFW];omega);obtain⟨u1,hu1⟩:=hbA.some_ (j*2+1) (by rw[List.length_set,List.length_set,qFW];omega);have f2:=hbA.frozen (j*2);have f3:=hbA.frozen (j*2+1);obtain⟨wB,hwB⟩:=eX ((wA.setCell ⟨B,j*2,none⟩ (.slice (some ⟨g',0,none⟩) n cg')).setCell ⟨B,j*2+1,none⟩ (.int .i64 ig'));have hsw:=K.o.swap place j hpl hlt;rw[Hg.o.1,Hg.o.2.1,Hg.o.2.2,Hg'.o.1,Hg'.o.2.1,Hg'.o.2.2,hwA,hwB]at hsw;have K2:=hZ hsw;clear hsw hbA;have HO:Hid (qAc (fun b=>b=B) w0 wB):=hZ (by rw[<-hwB,<-hwA];exact((((qAc.of_below (S:=fun b=>b=B) HB.o).set (p:=⟨B,place*2,none⟩) rfl _).set (p:=⟨B,place*2+1,none⟩) rfl _).set (p:=⟨B,j*2,none⟩) rfl _).set (p:=⟨B,j*2+1,none⟩) rfl _);refine lU 13 fun K hK=> ?_;go_simp
    try rw[hwA]
    refine hK.out _ _ ?_;clear hK K
    try simp only[Act.put,sX1,sX2,sX3]
    clear hwA f0 f1 m0 m1 l0 l1;refine pU 14 38 ?_;refine lU 15 fun K hK=> ?_;go_simp
    try rw[hwB]
    refine hK.out _ _ ?_;clear hK K
    try simp only[Act.put,sX1,sX2,sX3]
    clear hwB hu0 hu1 f2 f3;refine dU ?_;clear hHeld
    go_wp2_with fail
    go_ret;exact⟨HO.o,.inr ⟨j,hlt,hpl,by omega,by have:=Hlen.o;omega,hpj,by rw[He.o];exact hx,rfl,K2.o⟩⟩
  ·skip
   go_wp2_with fail
   go_ret;exact⟨qAc.of_below HB.o,.inl ⟨rfl,fun q h1 h2=>HZ.o q h1 (by omega),K.o⟩⟩
def qEu(h f d:Int)(zs ps:List Int):List Int:=List.zipWith (fun r p=>(h*r-f*p)/d) zs ps
theorem qHA{h f d:Int}{zs ps:List Int}{n:Nat}(h1:zs.length=n)(h2:ps.length=n):(qEu h f d zs ps).length=n:=by simp[qEu,h1,h2]
theorem qDU{h f d:Int}{zs ps:List Int}{j:Nat}(h1:j<(qEu h f d zs ps).length)(h2:j<zs.length)(h3:j<ps.length):(qEu h f d zs ps)[j]=(h*zs[j]-f*ps[j])/d:=by simp[qEu]
theorem qJL(w0:World)(g gp bc bh bp bd n c cp col:Nat)(zs ps:List Int)(h f d:Int)(hr:qAC w0 g zs)(hp:qAC w0 gp ps)(hzs:zs.length=n)(hps:ps.length=n)(hn:n<=1000)(hc:n<=c)(hc2:c<=9223372036854775807)(hcp:n<=cp)(hcp2:cp<=9223372036854775807)(hcol:col<n)(hf:zs[col]'(by omega)=f)
 (oc:One w0 bc 3 (.int .i64 col))(fh:Bx w0 bh h)(op:One w0 bp 77 (.slice (some ⟨gp,0,none⟩) n cp))(fd:Bx w0 bd d)(hd:d≠0)(hne:gp≠g/\bc≠g/\bh≠g/\bp≠g/\bd≠g)
 (szs:∀x∈zs,Sz 4000 x)(sps:∀x∈ps,Sz 4000 x)(sh:Sz 4000 h)(sd:Sz 4000 d):
 Calls Tryz.prog 181 #[.slice (some ⟨g,0,none⟩) n c,.pointer (some ⟨bc,0,none⟩),.pointer (some ⟨bh,0,none⟩),.pointer (some ⟨bp,0,none⟩),.pointer (some ⟨bd,0,none⟩)] w0 fun e w'=>(∃v,e=.returned v)/\qAC w' g (qEu h f d zs ps)/\qAc (fun b=>b=g) w0 w':=by
 have Rr:=hZ hr;have Rp:=hZ hp;have Oc:=hZ oc;have Fh:=hZ fh;have Op:=hZ op;have Fd:=hZ fd;have HO:=hZ (qAc.refl (fun b=>b=g) w0);have Hsz0:Hid (w0.heap.size<=w0.heap.size):=hZ (Nat.le_refl _);have Hlt0:Hid (g<w0.heap.size/\gp<w0.heap.size/\bc<w0.heap.size/\bh<w0.heap.size/\bp<w0.heap.size/\bd<w0.heap.size):=hZ ⟨hr.lt,hp.lt,oc.lt,fh.lt,op.lt,fd.lt⟩;have Hne:=hZ hne;have SZ:=hZ szs;have SP:=hZ sps;have Sh:=hZ sh;have Sd:=hZ sd;have Hzs:=hZ hzs;have Hps:=hZ hps;have Sf:Hid (Sz 4000 f):=hZ (hf▸szs _ (List.getElem_mem _));have HTl:=hZ (qHA (h:=h) (f:=f) (d:=d) hzs hps);have hcolz:col<zs.length:=by omega
 have i1:(0:Int)<=(col:Int):=by omega
 have i2:(col:Int)<(n:Int):=by omega
 clear hr hp oc fh op fd hne szs sps sh sd;obtain⟨s_f,a_f,n_f,c_f,d0f,d1f,h_f⟩:=Rr.o.get col hcolz;rw[hf]at h_f;have Vf:=hZ h_f;clear h_f;have dc:=Oc.o.cell;obtain⟨w1,hw⟩:=eX ((w0.alloc (.cells #[.bool s_f,.slice a_f n_f c_f] 73)));have hB:=aB hw;obtain⟨bf,hb_bf⟩:=eX w0.heap.size;have h9:=Bx.new (w:=w0) Vf.o;rw[hw,hb_bf]at h9;have Ff':=hZ h9;have hge_bf:w0.heap.size<=bf:=by omega
 clear h9;replace Rr:=Rr.b hB;replace Rp:=Rp.b hB;replace Oc:=Oc.b hB;replace Fh:=Fh.b hB;replace Op:=Op.b hB;replace Fd:=Fd.b hB;replace Vf:=Vf.b hB;replace HO:=HO.b hB;have Ff:=Ff';clear Ff';clear hB
 go_enter Tryz.func181,Tryz.ntmps181
 go_wp2_with fail
 clear hw hb_bf;clear dc d0f d1f;clear Vf;have Hbf:Hid (w0.heap.size<=bf):=hZ hge_bf;clear hge_bf hcolz i1 i2 hzs hps hf
 go_loopw [15] (fun i wr=>∃j:Nat,j<=n/\i=.int .i64 j/\Hid (qAC wr g ((qEu h f d zs ps).take j++zs.drop j))/\Hid (qAC wr gp ps)/\Hid (One wr bc 3 (.int .i64 col))/\Hid (Bx wr bh h)/\Hid (One wr bp 77 (.slice (some ⟨gp,0,none⟩) n cp))/\Hid (Bx wr bd d)/\Hid (Bx wr bf f)/\Hid (qAc (fun b=>b=g) w0 wr)) (fun i _=>n-(intOf i).toNat)
 case atStart=>exact⟨0,by omega,rfl,hZ (by simpa using Rr.o),Rp,Oc,Fh,Op,Fd,Ff,HO⟩
 case round=>
  clear Rr Rp Oc Fh Op Fd Ff HO;obtain⟨j,hj,rfl,Rr,Rp,Oc,Fh,Op,Fd,Ff,HO⟩:=hrel;obtain⟨w1,rfl⟩:=eY wr;by_cases hlt:j<n
  ·skip
   have i1:(0:Int)<=(j:Int):=by omega
   have i2:(j:Int)<(n:Int):=by omega
   have Hjz:Hid (j<zs.length):=hZ (by have:=Hzs.o;omega);have Hjp:Hid (j<ps.length):=hZ (by have:=Hps.o;omega);have Htl:Hid ((qEu h f d zs ps).length=zs.length):=hZ (by have:=HTl.o;have:=Hzs.o;omega);have Hjr:Hid (j<((qEu h f d zs ps).take j++zs.drop j).length):=hZ (by rw[qC8 Htl.o (by have:=Hjz.o;omega)];exact Hjz.o);obtain⟨s_r,a_r,n_r,c_r,d0r,d1r,h_r⟩:=Rr.o.get j Hjr.o;rw[qOs Htl.o Hjz.o]at h_r;have Vr:=hZ h_r;clear h_r;obtain⟨r,hr⟩:=eX (zs[j]'Hjz.o);have Hr:=hZ hr;have Sr:Hid (Sz 4000 r):=hZ (hr▸SZ.o _ (List.getElem_mem _));rw[hr]at Vr;clear hr
   go_wp2_with fail
   clear d0r d1r;clear Vr;refine qEw (fun t ds a w'=>∃v18 v19 v20 v21 v22 v23 be,a=⟨((((((t.setIfInBounds 8 (.pointer (some ⟨be,0,none⟩))).setIfInBounds 18 v18).setIfInBounds 19 v19).setIfInBounds 20 v20).setIfInBounds 21 v21).setIfInBounds 22 v22).setIfInBounds 23 v23,ds⟩/\Hid (Bx w' be (h*r))/\Hid (Below w1.heap.size w1 w')/\Hid (w1.heap.size<=be)) ?_ ?_
   ·skip
    have HJ:=hZ (Below.refl w1.heap.size w1);have Hszj:Hid (w1.heap.size<=w1.heap.size):=hZ (Nat.le_refl _);obtain⟨w2,hwd⟩:=eX w1.drew;have hB:=dB hwd;replace Rr:=Rr.b hB;replace Rp:=Rp.b hB;replace Oc:=Oc.b hB;replace Fh:=Fh.b hB;replace Op:=Op.b hB;replace Fd:=Fd.b hB;replace Ff:=Ff.b hB;replace HJ:=bT HJ hB;replace HO:=HO.b hB;clear hB;have HBr:Hid (qAc (fun b=>False) w2 w2):=hZ (qAc.refl _ _);refine qAU [7] (fun w'=>qAc (fun b=>False) w2 w') (by kernel_rfl) (by rw[hwd];exact qAc.refl _ _) (fun hHeld=> ?_);rw[hwd]at hHeld ⊢;clear hwd;obtain⟨s_r,a_r,n_r,c_r,d0r,d1r,h_r⟩:=Rr.o.get j Hjr.o;rw[qOs Htl.o Hjz.o,Hr.o]at h_r;have Vr:=hZ h_r;clear h_r;obtain⟨s_h,a_h,n_h,c_h,t_h,h_h⟩:=Fh.o;have d0h:=t_h.cell0;have d1h:=t_h.cell1;have Vh:=hZ h_h;clear t_h h_h;refine tV 0 18 (cF d0h Fh.o.lt) (cF d1h Fh.o.lt) ?_;refine qJy 1 19 (v:= ?_) rfl rfl (by kernel_rfl) (by kernel_rfl) (by kernel_rfl) (by kernel_rfl) (by kernel_rfl) (fun _ _ _ h=>h) (by rfl) ?_ (by assumption) ?_;rotate_left
    ·(intro w hSw;go_simp;first|done|with_reducible rfl)
    simp only[sX1,sX2,sX3];refine qJy 2 20 (v:= ?_) rfl rfl (by kernel_rfl) (by kernel_rfl) (by kernel_rfl) (by kernel_rfl) (by kernel_rfl) (fun _ _ _ h=>h) (by rfl) ?_ (by assumption) ?_;rotate_left
    ·(intro w hSw;go_simp;first|done|with_reducible rfl)
    simp only[sX1,sX2,sX3];refine qJy 3 21 (v:= ?_) rfl rfl (by kernel_rfl) (by kernel_rfl) (by kernel_rfl) (by kernel_rfl) (by kernel_rfl) (fun _ _ _ h=>h) (by rfl) ?_ (by assumption) ?_;rotate_left
    ·(intro w hSw;go_simp;first|done|with_reducible rfl)
    simp only[sX1,sX2,sX3];refine tV 4 22 (cF d0r Rr.o.lt) (cF d1r Rr.o.lt) ?_;clear d0r d1r;clear d0h d1h;have HJs:Hid (w1.heap.size<=w2.heap.size):=hZ HJ.o.size;have HOs:Hid (w0.heap.size<=w2.heap.size):=hZ HO.o.size;have Hlt1:Hid (g<w2.heap.size/\gp<w2.heap.size/\bc<w2.heap.size/\bh<w2.heap.size/\bp<w2.heap.size/\bd<w2.heap.size/\bf<w2.heap.size):=hZ ⟨Rr.o.lt,Rp.o.lt,Oc.o.lt,Fh.o.lt,Op.o.lt,Fd.o.lt,Ff.o.lt⟩;refine qRG [5,6] (by kernel_rfl) (by simp) ⟨qFp 5 rfl (fun K hK=> ?_),qFp 6 rfl (fun K hK=> ?_),trivial⟩
    ·skip
     go_simp;refine(qBH (w:=w2) Vh.o Vr.o Sh.o Sr.o (by omega)).mono ?_;rintro e w3 ⟨s_t,a_t,n_t,c_t,rfl,h_t,hB⟩;have Vt:=hZ h_t;replace HBr:=oT HBr hB;replace Rr:=Rr.b hB;replace Rp:=Rp.b hB;replace Oc:=Oc.b hB;replace Fh:=Fh.b hB;replace Op:=Op.b hB;replace Fd:=Fd.b hB;replace Ff:=Ff.b hB;replace Vr:=Vr.b hB;replace Vh:=Vh.b hB;replace HJ:=bT HJ hB;replace HO:=HO.b hB;clear hB;clear h_t;refine hK.out _ _ HBr.o (fun hHeld=> ?_);clear hK K
     try simp only[Act.put,sX1,sX2,sX3]
     refine eU 6 fun K hK=> ?_;go_simp;obtain⟨w4,hw⟩:=eX (w3.alloc (.cells #[.bool false,.slice none 0 0] 73));have hB:=aB hw;obtain⟨be,hb⟩:=eX w3.heap.size;have Fe':Hid (Bx w4 be 0):=hZ (by rw[<-hw,<-hb];exact Bx.new (qAJ _));have hge_be:w2.heap.size<=be:=by rw[<-hb];exact HBr.o.size
     replace HBr:=oT HBr hB;replace Rr:=Rr.b hB;replace Rp:=Rp.b hB;replace Oc:=Oc.b hB;replace Fh:=Fh.b hB;replace Op:=Op.b hB;replace Fd:=Fd.b hB;replace Ff:=Ff.b hB;replace Vr:=Vr.b hB;replace Vh:=Vh.b hB;replace Vt:=Vt.b hB;replace HJ:=bT HJ hB;replace HO:=HO.b hB;clear hB;have Fe:=Fe';clear Fe';rw[hw]
     try rw[hb]
     clear hw hb;refine hK.out _ _ HBr.o (fun hHeld=> ?_);clear hK K
     try simp only[Act.put,sX1,sX2,sX3]
     obtain⟨s_9,a_9,n_9,c_9,t_9,-⟩:=Fe.o;have e0:=t_9.cell0;have e1:=t_9.cell1;have e2:=t_9.frozen 0;have e3:=t_9.frozen 1;clear t_9;have hn9:qAi w4 (be):=Fe.o.noInt;obtain⟨w5,hw⟩:=eX ((w4.setCell ⟨be,0,none⟩ (.bool s_t)).setCell ⟨be,1,none⟩ (.slice a_t n_t c_t));have hw2:st2 w4 (be) (0) (1) s_t a_t n_t c_t=w5:=hw;replace Fe:=hZ (Bx.put Fe.o Vt.o);rw[hw2]at Fe;replace Rr:=hZ (Rr.o.offe hw2 hn9 (by have:=Hlt1.o;omega));replace Rp:=hZ (Rp.o.offe hw2 hn9 (by have:=Hlt1.o;omega));replace Oc:=hZ (Oc.o.offe hw2 (by have:=Hlt1.o;omega));replace Fh:=hZ (Fh.o.offe hw2 hn9 (by have:=Hlt1.o;omega));replace Op:=hZ (Op.o.offe hw2 (by have:=Hlt1.o;omega));replace Fd:=hZ (Fd.o.offe hw2 hn9 (by have:=Hlt1.o;omega));replace Ff:=hZ (Ff.o.offe hw2 hn9 (by have:=Hlt1.o;omega));replace Vr:=hZ (Vr.o.offe hw2 hn9);replace Vh:=hZ (Vh.o.offe hw2 hn9);replace Vt:=hZ (Vt.o.offe hw2 hn9);replace HJ:=hZ (bO hw2 HJ.o (by have:=HJs.o;omega));replace HO:=hZ (HO.o.offe hw2 (Or.inr (by have:=HOs.o;omega)));clear hw2 hn9;refine lU 7 fun K hK=> ?_;go_simp
     try rw[hw]
     refine hK.out _ _ ?_;clear hK K
     try simp only[Act.put,sX1,sX2,sX3]
     clear hw e0 e1 e2 e3;refine dU ?_;clear hHeld;refine qA0 ⟨_,_,_,_,_,_,_,by first|rfl|(simp only[sX1,sX2,sX3];rfl),Fe,HJ,hZ (by have:=HJs.o;omega)⟩
    ·skip
     go_simp;obtain⟨w3,hw⟩:=eX (w2.alloc (.cells #[.bool false,.slice none 0 0] 73));have hB:=aB hw;obtain⟨be,hb⟩:=eX w2.heap.size;have Fe':Hid (Bx w3 be 0):=hZ (by rw[<-hw,<-hb];exact Bx.new (qAJ _));have hge_be:w2.heap.size<=be:=by rw[<-hb];exact HBr.o.size
     replace HBr:=oT HBr hB;replace Rr:=Rr.b hB;replace Rp:=Rp.b hB;replace Oc:=Oc.b hB;replace Fh:=Fh.b hB;replace Op:=Op.b hB;replace Fd:=Fd.b hB;replace Ff:=Ff.b hB;replace Vr:=Vr.b hB;replace Vh:=Vh.b hB;replace HJ:=bT HJ hB;replace HO:=HO.b hB;clear hB;have Fe:=Fe';clear Fe';rw[hw]
     try rw[hb]
     clear hw hb;refine hK.out _ _ HBr.o (fun hHeld=> ?_);clear hK K
     try simp only[Act.put,sX1,sX2,sX3]
     refine eU 5 fun K hK=> ?_;go_simp;refine(qBH (w:=w3) Vh.o Vr.o Sh.o Sr.o (by omega)).mono ?_;rintro e w4 ⟨s_t,a_t,n_t,c_t,rfl,h_t,hB⟩;have Vt:=hZ h_t;replace HBr:=oT HBr hB;replace Rr:=Rr.b hB;replace Rp:=Rp.b hB;replace Oc:=Oc.b hB;replace Fh:=Fh.b hB;replace Op:=Op.b hB;replace Fd:=Fd.b hB;replace Ff:=Ff.b hB;replace Vr:=Vr.b hB;replace Vh:=Vh.b hB;replace Fe:=Fe.b hB;replace HJ:=bT HJ hB;replace HO:=HO.b hB;clear hB;clear h_t;refine hK.out _ _ HBr.o (fun hHeld=> ?_);clear hK K
     try simp only[Act.put,sX1,sX2,sX3]
     obtain⟨s_9,a_9,n_9,c_9,t_9,-⟩:=Fe.o;have e0:=t_9.cell0;have e1:=t_9.cell1;have e2:=t_9.frozen 0;have e3:=t_9.frozen 1;clear t_9;have hn9:qAi w4 (be):=Fe.o.noInt;obtain⟨w5,hw⟩:=eX ((w4.setCell ⟨be,0,none⟩ (.bool s_t)).setCell ⟨be,1,none⟩ (.slice a_t n_t c_t));have hw2:st2 w4 (be) (0) (1) s_t a_t n_t c_t=w5:=hw;replace Fe:=hZ (Bx.put Fe.o Vt.o);rw[hw2]at Fe;replace Rr:=hZ (Rr.o.offe hw2 hn9 (by have:=Hlt1.o;omega));replace Rp:=hZ (Rp.o.offe hw2 hn9 (by have:=Hlt1.o;omega));replace Oc:=hZ (Oc.o.offe hw2 (by have:=Hlt1.o;omega));replace Fh:=hZ (Fh.o.offe hw2 hn9 (by have:=Hlt1.o;omega));replace Op:=hZ (Op.o.offe hw2 (by have:=Hlt1.o;omega));replace Fd:=hZ (Fd.o.offe hw2 hn9 (by have:=Hlt1.o;omega));replace Ff:=hZ (Ff.o.offe hw2 hn9 (by have:=Hlt1.o;omega));replace Vr:=hZ (Vr.o.offe hw2 hn9);replace Vh:=hZ (Vh.o.offe hw2 hn9);replace Vt:=hZ (Vt.o.offe hw2 hn9);replace HJ:=hZ (bO hw2 HJ.o (by have:=HJs.o;omega));replace HO:=hZ (HO.o.offe hw2 (Or.inr (by have:=HOs.o;omega)));clear hw2 hn9;refine lU 7 fun K hK=> ?_;go_simp
     try rw[hw]
     refine hK.out _ _ ?_;clear hK K
     try simp only[Act.put,sX1,sX2,sX3]
     clear hw e0 e1 e2 e3;refine dU ?_;clear hHeld;refine qA0 ⟨_,_,_,_,_,_,_,by first|rfl|(simp only[sX1,sX2,sX3];rfl),Fe,HJ,hZ (by have:=HJs.o;omega)⟩
   ·skip
    rintro a w2 ⟨v18,v19,v20,v21,v22,v23,be,rfl,Fe,HJ,Hge⟩;simp only[sX1,sX2,sX3];have Hlt1:Hid (g<be/\gp<be/\bc<be/\bh<be/\bp<be/\bd<be/\bf<be/\w0.heap.size<=be):=hZ (by have h1:=Hge.o;have h2:=Rr.o.lt;have h3:=Rp.o.lt;have h4:=Oc.o.lt;have h5:=Fh.o.lt;have h6:=Op.o.lt;have h7:=Fd.o.lt;have h8:=Ff.o.lt;have h9:=HO.o.size;omega);have hB:=HJ.o;clear HJ Hge;replace Rr:=Rr.b hB;replace Rp:=Rp.b hB;replace Oc:=Oc.b hB;replace Fh:=Fh.b hB;replace Op:=Op.b hB;replace Fd:=Fd.b hB;replace Ff:=Ff.b hB;replace HO:=HO.b hB;clear hB;obtain⟨s_f,a_f,n_f,c_f,t_f,h_f⟩:=Ff.o;have d0f:=t_f.cell0;have d1f:=t_f.cell1;have Vf:=hZ h_f;clear t_f h_f
    go_wp2_with fail
    by_cases hf0:f=0
    ·skip
     obtain⟨p,hp⟩:=eX (ps[j]'Hjp.o);have Hp:=hZ hp;have Sp:Hid (Sz 4000 p):=hZ (hp▸SP.o _ (List.getElem_mem _));clear hp;refine(qAE (w:=w2) Vf.o Sf.o (by omega)).mono ?_;rintro e w3 ⟨he,hB⟩;rw[show qAV f 0=0 by rw[hf0];exact qA7 0]at he;subst he;replace Rr:=Rr.b hB;replace Rp:=Rp.b hB;replace Oc:=Oc.b hB;replace Fh:=Fh.b hB;replace Op:=Op.b hB;replace Fd:=Fd.b hB;replace Ff:=Ff.b hB;replace Fe:=Fe.b hB;replace Vf:=Vf.b hB;replace HO:=HO.b hB;clear hB;clear d0f d1f;clear Vf;obtain⟨E,hE⟩:=eX (h*r-f*p);replace Fe:Hid (Bx w3 be E):=hZ (by have h1:=Fe.o;rw[<-hE];rw[hf0];simp only[Int.zero_mul,Int.sub_zero];exact h1);have HE:=hZ hE;clear hE;have SE:Hid (Sz 8001 E):=hZ (by rw[<-HE.o];exact(Sh.o.mul Sr.o).sub (Sf.o.mul Sp.o));obtain⟨s_e,a_e,n_e,c_e,t_e,h_e⟩:=Fe.o;have d0e:=t_e.cell0;have d1e:=t_e.cell1;have Ve:=hZ h_e;clear t_e h_e
     go_wp2_with fail
     clear d0e d1e;by_cases hE0:E=0
     ·skip
      refine(qAE (w:=w3) Ve.o SE.o (by omega)).mono ?_;rintro e w4 ⟨he,hB⟩;rw[show qAV E 0=0 by rw[hE0];exact qA7 0]at he;subst he;replace Rr:=Rr.b hB;replace Rp:=Rp.b hB;replace Oc:=Oc.b hB;replace Fh:=Fh.b hB;replace Op:=Op.b hB;replace Fd:=Fd.b hB;replace Ff:=Ff.b hB;replace Fe:=Fe.b hB;replace Ve:=Ve.b hB;replace HO:=HO.b hB;clear hB;clear Ve;obtain⟨s_v,a_v,n_v,c_v,t_v,h_v⟩:=Fe.o;have d0v:=t_v.cell0;have d1v:=t_v.cell1;have Vv:=hZ h_v;clear t_v h_v;obtain⟨s_9,a_9,n_9,c_9,e0,e1,-⟩:=Rr.o.get (j) Hjr.o;have e2:=Rr.o.frozen (j*2);have e3:=Rr.o.frozen (j*2+1);have hn9:qAi w4 (g):=Rr.o.noInt;obtain⟨w5,hw⟩:=eX ((w4.setCell ⟨g,j*2,none⟩ (.bool s_v)).setCell ⟨g,j*2+1,none⟩ (.slice a_v n_v c_v));have hw2:st2 w4 (g) (j*2) (j*2+1) s_v a_v n_v c_v=w5:=hw;replace Rr:=hZ (qAC.put' Rr.o (j) Hjr.o Vv.o);rw[hw2]at Rr;replace Rp:=hZ (Rp.o.offe hw2 hn9 (by have:=Hne.o;have:=Hlt1.o;have:=Hbf.o;have:=Hlt0.o;omega));replace Oc:=hZ (Oc.o.offe hw2 (by have:=Hne.o;have:=Hlt1.o;have:=Hbf.o;have:=Hlt0.o;omega));replace Fh:=hZ (Fh.o.offe hw2 hn9 (by have:=Hne.o;have:=Hlt1.o;have:=Hbf.o;have:=Hlt0.o;omega));replace Op:=hZ (Op.o.offe hw2 (by have:=Hne.o;have:=Hlt1.o;have:=Hbf.o;have:=Hlt0.o;omega));replace Fd:=hZ (Fd.o.offe hw2 hn9 (by have:=Hne.o;have:=Hlt1.o;have:=Hbf.o;have:=Hlt0.o;omega));replace Ff:=hZ (Ff.o.offe hw2 hn9 (by have:=Hne.o;have:=Hlt1.o;have:=Hbf.o;have:=Hlt0.o;omega));replace Fe:=hZ (Fe.o.offe hw2 hn9 (by have:=Hne.o;have:=Hlt1.o;have:=Hbf.o;have:=Hlt0.o;omega));replace Vv:=hZ (Vv.o.offe hw2 hn9);replace HO:=hZ (HO.o.offe hw2 (Or.inl rfl));clear hw2 hn9
      go_wp2_with fail
      clear d0v d1v;clear hw e0 e1 e2 e3;have hz:(qEu h f d zs ps)[j]'(by have:=HTl.o;omega)=E:=by rw[qDU _ Hjz.o Hjp.o,Hr.o,Hp.o,HE.o];rw[hE0];simp
      replace Rr:Hid (qAC w5 g ((qEu h f d zs ps).take (j+1)++zs.drop (j+1))):=hZ (by have h1:=Rr.o;rw[<-hz,qCW Htl.o Hjz.o]at h1;exact h1);clear hz;go_roundw
      case rel=>exact⟨j+1,by omega,by go_num,Rr,Rp,Oc,Fh,Op,Fd,Ff,HO⟩
      case measure=>simp[intOf];omega
     ·skip
      refine(qAE (w:=w3) Ve.o SE.o (by omega)).mono ?_;rintro e w4 ⟨he,hB⟩;obtain⟨sge,hs9,q0e,q1e⟩:=qBn (x:=E) hE0;rw[hs9]at he;subst he;clear hs9;replace Rr:=Rr.b hB;replace Rp:=Rp.b hB;replace Oc:=Oc.b hB;replace Fh:=Fh.b hB;replace Op:=Op.b hB;replace Fd:=Fd.b hB;replace Ff:=Ff.b hB;replace Fe:=Fe.b hB;replace Ve:=Ve.b hB;replace HO:=HO.b hB;clear hB;clear Ve;obtain⟨s_e,a_e,n_e,c_e,t_e,h_e⟩:=Fe.o;have d0e:=t_e.cell0;have d1e:=t_e.cell1;have Ve:=hZ h_e;clear t_e h_e;obtain⟨s_d,a_d,n_d,c_d,t_d,h_d⟩:=Fd.o;have d0d:=t_d.cell0;have d1d:=t_d.cell1;have Vd:=hZ h_d;clear t_d h_d
      go_wp2_with fail
      clear d0e d1e d0d d1d;clear q0e q1e;refine(qE3 (w:=w4) Ve.o Vd.o SE.o Sd.o hd (by omega) (by omega)).mono ?_;rintro e w5 ⟨s_q,a_q,n_q,c_q,rfl,h_q,hB⟩;have Vq:=hZ h_q;replace Rr:=Rr.b hB;replace Rp:=Rp.b hB;replace Oc:=Oc.b hB;replace Fh:=Fh.b hB;replace Op:=Op.b hB;replace Fd:=Fd.b hB;replace Ff:=Ff.b hB;replace Fe:=Fe.b hB;replace Ve:=Ve.b hB;replace Vd:=Vd.b hB;replace HO:=HO.b hB;clear hB;clear h_q;obtain⟨s_9,a_9,n_9,c_9,t_9,-⟩:=Fe.o;have e0A:=t_9.cell0;have e1A:=t_9.cell1;have e2A:=t_9.frozen 0;have e3A:=t_9.frozen 1;clear t_9;have hn9:qAi w5 (be):=Fe.o.noInt;obtain⟨w6,hwA⟩:=eX ((w5.setCell ⟨be,0,none⟩ (.bool s_q)).setCell ⟨be,1,none⟩ (.slice a_q n_q c_q));have hw2:st2 w5 (be) (0) (1) s_q a_q n_q c_q=w6:=hwA;replace Fe:=hZ (Bx.put Fe.o Vq.o);rw[hw2]at Fe;replace Rr:=hZ (Rr.o.offe hw2 hn9 (by have:=Hlt1.o;omega));replace Rp:=hZ (Rp.o.offe hw2 hn9 (by have:=Hlt1.o;omega));replace Oc:=hZ (Oc.o.offe hw2 (by have:=Hlt1.o;omega));replace Fh:=hZ (Fh.o.offe hw2 hn9 (by have:=Hlt1.o;omega));replace Op:=hZ (Op.o.offe hw2 (by have:=Hlt1.o;omega));replace Fd:=hZ (Fd.o.offe hw2 hn9 (by have:=Hlt1.o;omega));replace Ff:=hZ (Ff.o.offe hw2 hn9 (by have:=Hlt1.o;omega));replace Ve:=hZ (Ve.o.offe hw2 hn9);replace Vd:=hZ (Vd.o.offe hw2 hn9);replace Vq:=hZ (Vq.o.offe hw2 hn9);replace HO:=hZ (HO.o.offe hw2 (Or.inr (by have:=Hlt1.o;omega)));clear hw2 hn9;obtain⟨s_v,a_v,n_v,c_v,t_v,h_v⟩:=Fe.o;have d0v:=t_v.cell0;have d1v:=t_v.cell1;have Vv:=hZ h_v;clear t_v h_v;obtain⟨s_9,a_9,n_9,c_9,e0B,e1B,-⟩:=Rr.o.get (j) Hjr.o;have e2B:=Rr.o.frozen (j*2);have e3B:=Rr.o.frozen (j*2+1);have hn9:qAi w6 (g):=Rr.o.noInt;obtain⟨w7,hwB⟩:=eX ((w6.setCell ⟨g,j*2,none⟩ (.bool s_v)).setCell ⟨g,j*2+1,none⟩ (.slice a_v n_v c_v));have hw2:st2 w6 (g) (j*2) (j*2+1) s_v a_v n_v c_v=w7:=hwB;replace Rr:=hZ (qAC.put' Rr.o (j) Hjr.o Vv.o);rw[hw2]at Rr;replace Rp:=hZ (Rp.o.offe hw2 hn9 (by have:=Hne.o;have:=Hlt1.o;have:=Hbf.o;have:=Hlt0.o;omega));replace Oc:=hZ (Oc.o.offe hw2 (by have:=Hne.o;have:=Hlt1.o;have:=Hbf.o;have:=Hlt0.o;omega));replace Fh:=hZ (Fh.o.offe hw2 hn9 (by have:=Hne.o;have:=Hlt1.o;have:=Hbf.o;have:=Hlt0.o;omega));replace Op:=hZ (Op.o.offe hw2 (by have:=Hne.o;have:=Hlt1.o;have:=Hbf.o;have:=Hlt0.o;omega));replace Fd:=hZ (Fd.o.offe hw2 hn9 (by have:=Hne.o;have:=Hlt1.o;have:=Hbf.o;have:=Hlt0.o;omega));replace Ff:=hZ (Ff.o.offe hw2 hn9 (by have:=Hne.o;have:=Hlt1.o;have:=Hbf.o;have:=Hlt0.o;omega));replace Fe:=hZ (Fe.o.offe hw2 hn9 (by have:=Hne.o;have:=Hlt1.o;have:=Hbf.o;have:=Hlt0.o;omega));replace Ve:=hZ (Ve.o.offe hw2 hn9);replace Vd:=hZ (Vd.o.offe hw2 hn9);replace Vq:=hZ (Vq.o.offe hw2 hn9);replace Vv:=hZ (Vv.o.offe hw2 hn9);replace HO:=hZ (HO.o.offe hw2 (Or.inl rfl));clear hw2 hn9
      go_wp2_with fail
      clear d0v d1v;clear hwA e0A e1A e2A e3A hwB e0B e1B e2B e3B;have hz:(qEu h f d zs ps)[j]'(by have:=HTl.o;omega)=E/d:=by rw[qDU _ Hjz.o Hjp.o,Hr.o,Hp.o,HE.o]
      replace Rr:Hid (qAC w7 g ((qEu h f d zs ps).take (j+1)++zs.drop (j+1))):=hZ (by have h1:=Rr.o;rw[<-hz,qCW Htl.o Hjz.o]at h1;exact h1);clear hz;go_roundw
      case rel=>exact⟨j+1,by omega,by go_num,Rr,Rp,Oc,Fh,Op,Fd,Ff,HO⟩
      case measure=>simp[intOf];omega
    ·skip
     obtain⟨p,hp⟩:=eX (ps[j]'Hjp.o);have Hp:=hZ hp;have Sp:Hid (Sz 4000 p):=hZ (hp▸SP.o _ (List.getElem_mem _));refine(qAE (w:=w2) Vf.o Sf.o (by omega)).mono ?_;rintro e w3 ⟨he,hB⟩;obtain⟨sgf,hs9,q0f,q1f⟩:=qBn (x:=f) hf0;rw[hs9]at he;subst he;clear hs9;replace Rr:=Rr.b hB;replace Rp:=Rp.b hB;replace Oc:=Oc.b hB;replace Fh:=Fh.b hB;replace Op:=Op.b hB;replace Fd:=Fd.b hB;replace Ff:=Ff.b hB;replace Fe:=Fe.b hB;replace Vf:=Vf.b hB;replace HO:=HO.b hB;clear hB;clear d0f d1f;clear Vf;obtain⟨s_p,a_p,n_p,c_p,d0p,d1p,h_p⟩:=Rp.o.get j Hjp.o;rw[hp]at h_p;have Vp:=hZ h_p;clear h_p hp;have dop:=Op.o.cell
     go_wp2_with fail
     clear q0f q1f d0p d1p dop;by_cases hp0:p=0
     ·skip
      refine(qAE (w:=w3) Vp.o Sp.o (by omega)).mono ?_;rintro e w4 ⟨he,hB⟩;rw[show qAV p 0=0 by rw[hp0];exact qA7 0]at he;subst he;replace Rr:=Rr.b hB;replace Rp:=Rp.b hB;replace Oc:=Oc.b hB;replace Fh:=Fh.b hB;replace Op:=Op.b hB;replace Fd:=Fd.b hB;replace Ff:=Ff.b hB;replace Fe:=Fe.b hB;replace Vp:=Vp.b hB;replace HO:=HO.b hB;clear hB;clear Vp;obtain⟨E,hE⟩:=eX (h*r-f*p);replace Fe:Hid (Bx w4 be E):=hZ (by have h1:=Fe.o;rw[<-hE];rw[hp0];simp only[Int.mul_zero,Int.sub_zero];exact h1);have HE:=hZ hE;clear hE;have SE:Hid (Sz 8001 E):=hZ (by rw[<-HE.o];exact(Sh.o.mul Sr.o).sub (Sf.o.mul Sp.o));obtain⟨s_e,a_e,n_e,c_e,t_e,h_e⟩:=Fe.o;have d0e:=t_e.cell0;have d1e:=t_e.cell1;have Ve:=hZ h_e;clear t_e h_e
      go_wp2_with fail
      clear d0e d1e;by_cases hE0:E=0
      ·skip
       refine(qAE (w:=w4) Ve.o SE.o (by omega)).mono ?_;rintro e w5 ⟨he,hB⟩;rw[show qAV E 0=0 by rw[hE0];exact qA7 0]at he;subst he;replace Rr:=Rr.b hB;replace Rp:=Rp.b hB;replace Oc:=Oc.b hB;replace Fh:=Fh.b hB;replace Op:=Op.b hB;replace Fd:=Fd.b hB;replace Ff:=Ff.b hB;replace Fe:=Fe.b hB;replace Ve:=Ve.b hB;replace HO:=HO.b hB;clear hB;clear Ve;obtain⟨s_v,a_v,n_v,c_v,t_v,h_v⟩:=Fe.o;have d0v:=t_v.cell0;have d1v:=t_v.cell1;have Vv:=hZ h_v;clear t_v h_v;obtain⟨s_9,a_9,n_9,c_9,e0,e1,-⟩:=Rr.o.get (j) Hjr.o;have e2:=Rr.o.frozen (j*2);have e3:=Rr.o.frozen (j*2+1);have hn9:qAi w5 (g):=Rr.o.noInt;obtain⟨w6,hw⟩:=eX ((w5.setCell ⟨g,j*2,none⟩ (.bool s_v)).setCell ⟨g,j*2+1,none⟩ (.slice a_v n_v c_v));have hw2:st2 w5 (g) (j*2) (j*2+1) s_v a_v n_v c_v=w6:=hw;replace Rr:=hZ (qAC.put' Rr.o (j) Hjr.o Vv.o);rw[hw2]at Rr;replace Rp:=hZ (Rp.o.offe hw2 hn9 (by have:=Hne.o;have:=Hlt1.o;have:=Hbf.o;have:=Hlt0.o;omega));replace Oc:=hZ (Oc.o.offe hw2 (by have:=Hne.o;have:=Hlt1.o;have:=Hbf.o;have:=Hlt0.o;omega));replace Fh:=hZ (Fh.o.offe hw2 hn9 (by have:=Hne.o;have:=Hlt1.o;have:=Hbf.o;have:=Hlt0.o;omega));replace Op:=hZ (Op.o.offe hw2 (by have:=Hne.o;have:=Hlt1.o;have:=Hbf.o;have:=Hlt0.o;omega));replace Fd:=hZ (Fd.o.offe hw2 hn9 (by have:=Hne.o;have:=Hlt1.o;have:=Hbf.o;have:=Hlt0.o;omega));replace Ff:=hZ (Ff.o.offe hw2 hn9 (by have:=Hne.o;have:=Hlt1.o;have:=Hbf.o;have:=Hlt0.o;omega));replace Fe:=hZ (Fe.o.offe hw2 hn9 (by have:=Hne.o;have:=Hlt1.o;have:=Hbf.o;have:=Hlt0.o;omega));replace Vv:=hZ (Vv.o.offe hw2 hn9);replace HO:=hZ (HO.o.offe hw2 (Or.inl rfl));clear hw2 hn9
       go_wp2_with fail
       clear d0v d1v;clear hw e0 e1 e2 e3;have hz:(qEu h f d zs ps)[j]'(by have:=HTl.o;omega)=E:=by rw[qDU _ Hjz.o Hjp.o,Hr.o,Hp.o,HE.o];rw[hE0];simp
       replace Rr:Hid (qAC w6 g ((qEu h f d zs ps).take (j+1)++zs.drop (j+1))):=hZ (by have h1:=Rr.o;rw[<-hz,qCW Htl.o Hjz.o]at h1;exact h1);clear hz;go_roundw
       case rel=>exact⟨j+1,by omega,by go_num,Rr,Rp,Oc,Fh,Op,Fd,Ff,HO⟩
       case measure=>simp[intOf];omega
      ·skip
       refine(qAE (w:=w4) Ve.o SE.o (by omega)).mono ?_;rintro e w5 ⟨he,hB⟩;obtain⟨sge,hs9,q0e,q1e⟩:=qBn (x:=E) hE0;rw[hs9]at he;subst he;clear hs9;replace Rr:=Rr.b hB;replace Rp:=Rp.b hB;replace Oc:=Oc.b hB;replace Fh:=Fh.b hB;replace Op:=Op.b hB;replace Fd:=Fd.b hB;replace Ff:=Ff.b hB;replace Fe:=Fe.b hB;replace Ve:=Ve.b hB;replace HO:=HO.b hB;clear hB;clear Ve;obtain⟨s_e,a_e,n_e,c_e,t_e,h_e⟩:=Fe.o;have d0e:=t_e.cell0;have d1e:=t_e.cell1;have Ve:=hZ h_e;clear t_e h_e;obtain⟨s_d,a_d,n_d,c_d,t_d,h_d⟩:=Fd.o;have d0d:=t_d.cell0;have d1d:=t_d.cell1;have Vd:=hZ h_d;clear t_d h_d
       go_wp2_with fail
       clear d0e d1e d0d d1d;clear q0e q1e;refine(qE3 (w:=w5) Ve.o Vd.o SE.o Sd.o hd (by omega) (by omega)).mono ?_;rintro e w6 ⟨s_q,a_q,n_q,c_q,rfl,h_q,hB⟩;have Vq:=hZ h_q;replace Rr:=Rr.b hB;replace Rp:=Rp.b hB;replace Oc:=Oc.b hB;replace Fh:=Fh.b hB;replace Op:=Op.b hB;replace Fd:=Fd.b hB;replace Ff:=Ff.b hB;replace Fe:=Fe.b hB;replace Ve:=Ve.b hB;replace Vd:=Vd.b hB;replace HO:=HO.b hB;clear hB;clear h_q;obtain⟨s_9,a_9,n_9,c_9,t_9,-⟩:=Fe.o;have e0A:=t_9.cell0;have e1A:=t_9.cell1;have e2A:=t_9.frozen 0;have e3A:=t_9.frozen 1;clear t_9;have hn9:qAi w6 (be):=Fe.o.noInt;obtain⟨w7,hwA⟩:=eX ((w6.setCell ⟨be,0,none⟩ (.bool s_q)).setCell ⟨be,1,none⟩ (.slice a_q n_q c_q));have hw2:st2 w6 (be) (0) (1) s_q a_q n_q c_q=w7:=hwA;replace Fe:=hZ (Bx.put Fe.o Vq.o);rw[hw2]at Fe;replace Rr:=hZ (Rr.o.offe hw2 hn9 (by have:=Hlt1.o;omega));replace Rp:=hZ (Rp.o.offe hw2 hn9 (by have:=Hlt1.o;omega));replace Oc:=hZ (Oc.o.offe hw2 (by have:=Hlt1.o;omega));replace Fh:=hZ (Fh.o.offe hw2 hn9 (by have:=Hlt1.o;omega));replace Op:=hZ (Op.o.offe hw2 (by have:=Hlt1.o;omega));replace Fd:=hZ (Fd.o.offe hw2 hn9 (by have:=Hlt1.o;omega));replace Ff:=hZ (Ff.o.offe hw2 hn9 (by have:=Hlt1.o;omega));replace Ve:=hZ (Ve.o.offe hw2 hn9);replace Vd:=hZ (Vd.o.offe hw2 hn9);replace Vq:=hZ (Vq.o.offe hw2 hn9);replace HO:=hZ (HO.o.offe hw2 (Or.inr (by have:=Hlt1.o;omega)));clear hw2 hn9;obtain⟨s_v,a_v,n_v,c_v,t_v,h_v⟩:=Fe.o;have d0v:=t_v.cell0;have d1v:=t_v.cell1;have Vv:=hZ h_v;clear t_v h_v;obtain⟨s_9,a_9,n_9,c_9,e0B,e1B,-⟩:=Rr.o.get (j) Hjr.o;have e2B:=Rr.o.frozen (j*2);have e3B:=Rr.o.frozen (j*2+1);have hn9:qAi w7 (g):=Rr.o.noInt;obtain⟨w8,hwB⟩:=eX ((w7.setCell ⟨g,j*2,none⟩ (.bool s_v)).setCell ⟨g,j*2+1,none⟩ (.slice a_v n_v c_v));have hw2:st2 w7 (g) (j*2) (j*2+1) s_v a_v n_v c_v=w8:=hwB;replace Rr:=hZ (qAC.put' Rr.o (j) Hjr.o Vv.o);rw[hw2]at Rr;replace Rp:=hZ (Rp.o.offe hw2 hn9 (by have:=Hne.o;have:=Hlt1.o;have:=Hbf.o;have:=Hlt0.o;omega));replace Oc:=hZ (Oc.o.offe hw2 (by have:=Hne.o;have:=Hlt1.o;have:=Hbf.o;have:=Hlt0.o;omega));replace Fh:=hZ (Fh.o.offe hw2 hn9 (by have:=Hne.o;have:=Hlt1.o;have:=Hbf.o;have:=Hlt0.o;omega));replace Op:=hZ (Op.o.offe hw2 (by have:=Hne.o;have:=Hlt1.o;have:=Hbf.o;have:=Hlt0.o;omega));replace Fd:=hZ (Fd.o.offe hw2 hn9 (by have:=Hne.o;have:=Hlt1.o;have:=Hbf.o;have:=Hlt0.o;omega));replace Ff:=hZ (Ff.o.offe hw2 hn9 (by have:=Hne.o;have:=Hlt1.o;have:=Hbf.o;have:=Hlt0.o;omega));replace Fe:=hZ (Fe.o.offe hw2 hn9 (by have:=Hne.o;have:=Hlt1.o;have:=Hbf.o;have:=Hlt0.o;omega));replace Ve:=hZ (Ve.o.offe hw2 hn9);replace Vd:=hZ (Vd.o.offe hw2 hn9);replace Vq:=hZ (Vq.o.offe hw2 hn9);replace Vv:=hZ (Vv.o.offe hw2 hn9);replace HO:=hZ (HO.o.offe hw2 (Or.inl rfl));clear hw2 hn9
       go_wp2_with fail
       clear d0v d1v;clear hwA e0A e1A e2A e3A hwB e0B e1B e2B e3B;have hz:(qEu h f d zs ps)[j]'(by have:=HTl.o;omega)=E/d:=by rw[qDU _ Hjz.o Hjp.o,Hr.o,Hp.o,HE.o]
       replace Rr:Hid (qAC w8 g ((qEu h f d zs ps).take (j+1)++zs.drop (j+1))):=hZ (by have h1:=Rr.o;rw[<-hz,qCW Htl.o Hjz.o]at h1;exact h1);clear hz;go_roundw
       case rel=>exact⟨j+1,by omega,by go_num,Rr,Rp,Oc,Fh,Op,Fd,Ff,HO⟩
       case measure=>simp[intOf];omega
     ·skip
      refine(qAE (w:=w3) Vp.o Sp.o (by omega)).mono ?_;rintro e w4 ⟨he,hB⟩;obtain⟨sgp,hs9,q0p,q1p⟩:=qBn (x:=p) hp0;rw[hs9]at he;subst he;clear hs9;replace Rr:=Rr.b hB;replace Rp:=Rp.b hB;replace Oc:=Oc.b hB;replace Fh:=Fh.b hB;replace Op:=Op.b hB;replace Fd:=Fd.b hB;replace Ff:=Ff.b hB;replace Fe:=Fe.b hB;replace Vp:=Vp.b hB;replace HO:=HO.b hB;clear hB;clear Vp
      go_wp2_with fail
      clear q0p q1p;obtain⟨w5,hwd⟩:=eX w4.drew;have hB:=dB hwd;replace Rr:=Rr.b hB;replace Rp:=Rp.b hB;replace Oc:=Oc.b hB;replace Fh:=Fh.b hB;replace Op:=Op.b hB;replace Fd:=Fd.b hB;replace Ff:=Ff.b hB;replace Fe:=Fe.b hB;replace HO:=HO.b hB;clear hB;have HBr:Hid (qAc (fun b=>False) w5 w5):=hZ (qAc.refl _ _);refine qAU [8] (fun w'=>qAc (fun b=>False) w5 w') (by kernel_rfl) (by rw[hwd];exact qAc.refl _ _) (fun hHeld=> ?_);rw[hwd]at hHeld ⊢;clear hwd;obtain⟨s_e,a_e,n_e,c_e,t_e,h_e⟩:=Fe.o;have d0e:=t_e.cell0;have d1e:=t_e.cell1;have Ve:=hZ h_e;clear t_e h_e;obtain⟨s_f,a_f,n_f,c_f,t_f,h_f⟩:=Ff.o;have d0f:=t_f.cell0;have d1f:=t_f.cell1;have Vf:=hZ h_f;clear t_f h_f;have dop:=Op.o.cell;obtain⟨s_p,a_p,n_p,c_p,d0p,d1p,h_p⟩:=Rp.o.get j Hjp.o;rw[Hp.o]at h_p;have Vp:=hZ h_p;clear h_p;refine tV 0 35 (cF d0e Fe.o.lt) (cF d1e Fe.o.lt) ?_;refine tV 1 36 (cF d0f Ff.o.lt) (cF d1f Ff.o.lt) ?_;refine tU 2 37 (cF dop Op.o.lt) ?_;refine qJy 3 38 (v:= ?_) rfl rfl (by kernel_rfl) (by kernel_rfl) (by kernel_rfl) (by kernel_rfl) (by kernel_rfl) (fun _ _ _ h=>h) (by rfl) ?_ (by assumption) ?_;rotate_left
      ·(intro w hSw;go_simp;first|done|with_reducible rfl)
      simp only[sX1,sX2,sX3];refine qJy 4 39 (v:= ?_) rfl rfl (by kernel_rfl) (by kernel_rfl) (by kernel_rfl) (by kernel_rfl) (by kernel_rfl) (fun _ _ _ h=>h) (by rfl) ?_ (by assumption) ?_;rotate_left
      ·(intro w hSw;go_simp;first|done|with_reducible rfl)
      simp only[sX1,sX2,sX3];refine tV 5 40 (cF d0p Rp.o.lt) (cF d1p Rp.o.lt) ?_;clear d0e d1e d0f d1f;clear dop d0p d1p;refine eU 6 fun K hK=> ?_;go_simp;refine(qBH (w:=w5) Vf.o Vp.o Sf.o Sp.o (by omega)).mono ?_;rintro e w6 ⟨s_t,a_t,n_t,c_t,rfl,h_t,hB⟩;have Vt:=hZ h_t;replace HBr:=oT HBr hB;replace Rr:=Rr.b hB;replace Rp:=Rp.b hB;replace Oc:=Oc.b hB;replace Fh:=Fh.b hB;replace Op:=Op.b hB;replace Fd:=Fd.b hB;replace Ff:=Ff.b hB;replace Fe:=Fe.b hB;replace Ve:=Ve.b hB;replace Vf:=Vf.b hB;replace Vp:=Vp.b hB;replace HO:=HO.b hB;clear hB;clear h_t;refine hK.out _ _ HBr.o (fun hHeld=> ?_);clear hK K
      try simp only[Act.put,sX1,sX2,sX3]
      refine eU 7 fun K hK=> ?_;go_simp;refine(qEG (w:=w6) (k:=8000) Ve.o Vt.o (Sh.o.mul Sr.o) (Sf.o.mul Sp.o) (by omega)).mono ?_;rintro e w7 ⟨s_u,a_u,n_u,c_u,rfl,h_u,hB⟩;have Vu:=hZ h_u;replace HBr:=oT HBr hB;replace Rr:=Rr.b hB;replace Rp:=Rp.b hB;replace Oc:=Oc.b hB;replace Fh:=Fh.b hB;replace Op:=Op.b hB;replace Fd:=Fd.b hB;replace Ff:=Ff.b hB;replace Fe:=Fe.b hB;replace Ve:=Ve.b hB;replace Vf:=Vf.b hB;replace Vp:=Vp.b hB;replace Vt:=Vt.b hB;replace HO:=HO.b hB;clear hB;clear h_u;refine hK.out _ _ HBr.o (fun hHeld=> ?_);clear hK K
      try simp only[Act.put,sX1,sX2,sX3]
      obtain⟨s_9,a_9,n_9,c_9,t_9,-⟩:=Fe.o;have e0:=t_9.cell0;have e1:=t_9.cell1;have e2:=t_9.frozen 0;have e3:=t_9.frozen 1;clear t_9;have hn9:qAi w7 (be):=Fe.o.noInt;obtain⟨w8,hw⟩:=eX ((w7.setCell ⟨be,0,none⟩ (.bool s_u)).setCell ⟨be,1,none⟩ (.slice a_u n_u c_u));have hw2:st2 w7 (be) (0) (1) s_u a_u n_u c_u=w8:=hw;replace Fe:=hZ (Bx.put Fe.o Vu.o);rw[hw2]at Fe;replace Rr:=hZ (Rr.o.offe hw2 hn9 (by have:=Hlt1.o;omega));replace Rp:=hZ (Rp.o.offe hw2 hn9 (by have:=Hlt1.o;omega));replace Oc:=hZ (Oc.o.offe hw2 (by have:=Hlt1.o;omega));replace Fh:=hZ (Fh.o.offe hw2 hn9 (by have:=Hlt1.o;omega));replace Op:=hZ (Op.o.offe hw2 (by have:=Hlt1.o;omega));replace Fd:=hZ (Fd.o.offe hw2 hn9 (by have:=Hlt1.o;omega));replace Ff:=hZ (Ff.o.offe hw2 hn9 (by have:=Hlt1.o;omega));replace Ve:=hZ (Ve.o.offe hw2 hn9);replace Vf:=hZ (Vf.o.offe hw2 hn9);replace Vp:=hZ (Vp.o.offe hw2 hn9);replace Vt:=hZ (Vt.o.offe hw2 hn9);replace Vu:=hZ (Vu.o.offe hw2 hn9);replace HO:=hZ (HO.o.offe hw2 (Or.inr (by have:=Hlt1.o;omega)));clear hw2 hn9;refine lU 8 fun K hK=> ?_;go_simp
      try rw[hw]
      refine hK.out _ _ ?_;clear hK K
      try simp only[Act.put,sX1,sX2,sX3]
      clear hw e0 e1 e2 e3;refine dU ?_;clear hHeld;obtain⟨E,hE⟩:=eX (h*r-f*p);replace Fe:Hid (Bx w8 be E):=hZ (by have h1:=Fe.o;rw[<-hE];exact h1);have HE:=hZ hE;clear hE;have SE:Hid (Sz 8001 E):=hZ (by rw[<-HE.o];exact(Sh.o.mul Sr.o).sub (Sf.o.mul Sp.o));obtain⟨s_e,a_e,n_e,c_e,t_e,h_e⟩:=Fe.o;have d0e:=t_e.cell0;have d1e:=t_e.cell1;have Ve:=hZ h_e;clear t_e h_e
      go_wp2_with fail
      clear d0e d1e;by_cases hE0:E=0
      ·skip
       refine(qAE (w:=w8) Ve.o SE.o (by omega)).mono ?_;rintro e w9 ⟨he,hB⟩;rw[show qAV E 0=0 by rw[hE0];exact qA7 0]at he;subst he;replace Rr:=Rr.b hB;replace Rp:=Rp.b hB;replace Oc:=Oc.b hB;replace Fh:=Fh.b hB;replace Op:=Op.b hB;replace Fd:=Fd.b hB;replace Ff:=Ff.b hB;replace Fe:=Fe.b hB;replace Ve:=Ve.b hB;replace Vf:=Vf.b hB;replace Vp:=Vp.b hB;replace Vt:=Vt.b hB;replace Vu:=Vu.b hB;replace HO:=HO.b hB;clear hB;clear Ve;obtain⟨s_v,a_v,n_v,c_v,t_v,h_v⟩:=Fe.o;have d0v:=t_v.cell0;have d1v:=t_v.cell1;have Vv:=hZ h_v;clear t_v h_v;obtain⟨s_9,a_9,n_9,c_9,e0,e1,-⟩:=Rr.o.get (j) Hjr.o;have e2:=Rr.o.frozen (j*2);have e3:=Rr.o.frozen (j*2+1);have hn9:qAi w9 (g):=Rr.o.noInt;obtain⟨w10,hw⟩:=eX ((w9.setCell ⟨g,j*2,none⟩ (.bool s_v)).setCell ⟨g,j*2+1,none⟩ (.slice a_v n_v c_v));have hw2:st2 w9 (g) (j*2) (j*2+1) s_v a_v n_v c_v=w10:=hw;replace Rr:=hZ (qAC.put' Rr.o (j) Hjr.o Vv.o);rw[hw2]at Rr;replace Rp:=hZ (Rp.o.offe hw2 hn9 (by have:=Hne.o;have:=Hlt1.o;have:=Hbf.o;have:=Hlt0.o;omega));replace Oc:=hZ (Oc.o.offe hw2 (by have:=Hne.o;have:=Hlt1.o;have:=Hbf.o;have:=Hlt0.o;omega));replace Fh:=hZ (Fh.o.offe hw2 hn9 (by have:=Hne.o;have:=Hlt1.o;have:=Hbf.o;have:=Hlt0.o;omega));replace Op:=hZ (Op.o.offe hw2 (by have:=Hne.o;have:=Hlt1.o;have:=Hbf.o;have:=Hlt0.o;omega));replace Fd:=hZ (Fd.o.offe hw2 hn9 (by have:=Hne.o;have:=Hlt1.o;have:=Hbf.o;have:=Hlt0.o;omega));replace Ff:=hZ (Ff.o.offe hw2 hn9 (by have:=Hne.o;have:=Hlt1.o;have:=Hbf.o;have:=Hlt0.o;omega));replace Fe:=hZ (Fe.o.offe hw2 hn9 (by have:=Hne.o;have:=Hlt1.o;have:=Hbf.o;have:=Hlt0.o;omega));replace Vf:=hZ (Vf.o.offe hw2 hn9);replace Vp:=hZ (Vp.o.offe hw2 hn9);replace Vt:=hZ (Vt.o.offe hw2 hn9);replace Vu:=hZ (Vu.o.offe hw2 hn9);replace Vv:=hZ (Vv.o.offe hw2 hn9);replace HO:=hZ (HO.o.offe hw2 (Or.inl rfl));clear hw2 hn9
       go_wp2_with fail
       clear d0v d1v;clear hw e0 e1 e2 e3;have hz:(qEu h f d zs ps)[j]'(by have:=HTl.o;omega)=E:=by rw[qDU _ Hjz.o Hjp.o,Hr.o,Hp.o,HE.o];rw[hE0];simp
       replace Rr:Hid (qAC w10 g ((qEu h f d zs ps).take (j+1)++zs.drop (j+1))):=hZ (by have h1:=Rr.o;rw[<-hz,qCW Htl.o Hjz.o]at h1;exact h1);clear hz;go_roundw
       case rel=>exact⟨j+1,by omega,by go_num,Rr,Rp,Oc,Fh,Op,Fd,Ff,HO⟩
       case measure=>simp[intOf];omega
      ·skip
       refine(qAE (w:=w8) Ve.o SE.o (by omega)).mono ?_;rintro e w9 ⟨he,hB⟩;obtain⟨sge,hs9,q0e,q1e⟩:=qBn (x:=E) hE0;rw[hs9]at he;subst he;clear hs9;replace Rr:=Rr.b hB;replace Rp:=Rp.b hB;replace Oc:=Oc.b hB;replace Fh:=Fh.b hB;replace Op:=Op.b hB;replace Fd:=Fd.b hB;replace Ff:=Ff.b hB;replace Fe:=Fe.b hB;replace Ve:=Ve.b hB;replace Vf:=Vf.b hB;replace Vp:=Vp.b hB;replace Vt:=Vt.b hB;replace Vu:=Vu.b hB;replace HO:=HO.b hB;clear hB;clear Ve;obtain⟨s_e,a_e,n_e,c_e,t_e,h_e⟩:=Fe.o;have d0e:=t_e.cell0;have d1e:=t_e.cell1;have Ve:=hZ h_e;clear t_e h_e;obtain⟨s_d,a_d,n_d,c_d,t_d,h_d⟩:=Fd.o;have d0d:=t_d.cell0;have d1d:=t_d.cell1;have Vd:=hZ h_d;clear t_d h_d
       go_wp2_with fail
       clear d0e d1e d0d d1d;clear q0e q1e;refine(qE3 (w:=w9) Ve.o Vd.o SE.o Sd.o hd (by omega) (by omega)).mono ?_;rintro e w10 ⟨s_q,a_q,n_q,c_q,rfl,h_q,hB⟩;have Vq:=hZ h_q;replace Rr:=Rr.b hB;replace Rp:=Rp.b hB;replace Oc:=Oc.b hB;replace Fh:=Fh.b hB;replace Op:=Op.b hB;replace Fd:=Fd.b hB;replace Ff:=Ff.b hB;replace Fe:=Fe.b hB;replace Vf:=Vf.b hB;replace Vp:=Vp.b hB;replace Vt:=Vt.b hB;replace Vu:=Vu.b hB;replace Ve:=Ve.b hB;replace Vd:=Vd.b hB;replace HO:=HO.b hB;clear hB;clear h_q;obtain⟨s_9,a_9,n_9,c_9,t_9,-⟩:=Fe.o;have e0A:=t_9.cell0;have e1A:=t_9.cell1;have e2A:=t_9.frozen 0;have e3A:=t_9.frozen 1;clear t_9;have hn9:qAi w10 (be):=Fe.o.noInt;obtain⟨w11,hwA⟩:=eX ((w10.setCell ⟨be,0,none⟩ (.bool s_q)).setCell ⟨be,1,none⟩ (.slice a_q n_q c_q));have hw2:st2 w10 (be) (0) (1) s_q a_q n_q c_q=w11:=hwA;replace Fe:=hZ (Bx.put Fe.o Vq.o);rw[hw2]at Fe;replace Rr:=hZ (Rr.o.offe hw2 hn9 (by have:=Hlt1.o;omega));replace Rp:=hZ (Rp.o.offe hw2 hn9 (by have:=Hlt1.o;omega));replace Oc:=hZ (Oc.o.offe hw2 (by have:=Hlt1.o;omega));replace Fh:=hZ (Fh.o.offe hw2 hn9 (by have:=Hlt1.o;omega));replace Op:=hZ (Op.o.offe hw2 (by have:=Hlt1.o;omega));replace Fd:=hZ (Fd.o.offe hw2 hn9 (by have:=Hlt1.o;omega));replace Ff:=hZ (Ff.o.offe hw2 hn9 (by have:=Hlt1.o;omega));replace Vf:=hZ (Vf.o.offe hw2 hn9);replace Vp:=hZ (Vp.o.offe hw2 hn9);replace Vt:=hZ (Vt.o.offe hw2 hn9);replace Vu:=hZ (Vu.o.offe hw2 hn9);replace Ve:=hZ (Ve.o.offe hw2 hn9);replace Vd:=hZ (Vd.o.offe hw2 hn9);replace Vq:=hZ (Vq.o.offe hw2 hn9);replace HO:=hZ (HO.o.offe hw2 (Or.inr (by have:=Hlt1.o;omega)));clear hw2 hn9;obtain⟨s_v,a_v,n_v,c_v,t_v,h_v⟩:=Fe.o;have d0v:=t_v.cell0;have d1v:=t_v.cell1;have Vv:=hZ h_v;clear t_v h_v;obtain⟨s_9,a_9,n_9,c_9,e0B,e1B,-⟩:=Rr.o.get (j) Hjr.o;have e2B:=Rr.o.frozen (j*2);have e3B:=Rr.o.frozen (j*2+1);have hn9:qAi w11 (g):=Rr.o.noInt;obtain⟨w12,hwB⟩:=eX ((w11.setCell ⟨g,j*2,none⟩ (.bool s_v)).setCell ⟨g,j*2+1,none⟩ (.slice a_v n_v c_v));have hw2:st2 w11 (g) (j*2) (j*2+1) s_v a_v n_v c_v=w12:=hwB;replace Rr:=hZ (qAC.put' Rr.o (j) Hjr.o Vv.o);rw[hw2]at Rr;replace Rp:=hZ (Rp.o.offe hw2 hn9 (by have:=Hne.o;have:=Hlt1.o;have:=Hbf.o;have:=Hlt0.o;omega));replace Oc:=hZ (Oc.o.offe hw2 (by have:=Hne.o;have:=Hlt1.o;have:=Hbf.o;have:=Hlt0.o;omega));replace Fh:=hZ (Fh.o.offe hw2 hn9 (by have:=Hne.o;have:=Hlt1.o;have:=Hbf.o;have:=Hlt0.o;omega));replace Op:=hZ (Op.o.offe hw2 (by have:=Hne.o;have:=Hlt1.o;have:=Hbf.o;have:=Hlt0.o;omega));replace Fd:=hZ (Fd.o.offe hw2 hn9 (by have:=Hne.o;have:=Hlt1.o;have:=Hbf.o;have:=Hlt0.o;omega));replace Ff:=hZ (Ff.o.offe hw2 hn9 (by have:=Hne.o;have:=Hlt1.o;have:=Hbf.o;have:=Hlt0.o;omega));replace Fe:=hZ (Fe.o.offe hw2 hn9 (by have:=Hne.o;have:=Hlt1.o;have:=Hbf.o;have:=Hlt0.o;omega));replace Vf:=hZ (Vf.o.offe hw2 hn9);replace Vp:=hZ (Vp.o.offe hw2 hn9);replace Vt:=hZ (Vt.o.offe hw2 hn9);replace Vu:=hZ (Vu.o.offe hw2 hn9);replace Ve:=hZ (Ve.o.offe hw2 hn9);replace Vd:=hZ (Vd.o.offe hw2 hn9);replace Vq:=hZ (Vq.o.offe hw2 hn9);replace Vv:=hZ (Vv.o.offe hw2 hn9);replace HO:=hZ (HO.o.offe hw2 (Or.inl rfl));clear hw2 hn9
       go_wp2_with fail
       clear d0v d1v;clear hwA e0A e1A e2A e3A hwB e0B e1B e2B e3B;have hz:(qEu h f d zs ps)[j]'(by have:=HTl.o;omega)=E/d:=by rw[qDU _ Hjz.o Hjp.o,Hr.o,Hp.o,HE.o]
       replace Rr:Hid (qAC w12 g ((qEu h f d zs ps).take (j+1)++zs.drop (j+1))):=hZ (by have h1:=Rr.o;rw[<-hz,qCW Htl.o Hjz.o]at h1;exact h1);clear hz;go_roundw
       case rel=>exact⟨j+1,by omega,by go_num,Rr,Rp,Oc,Fh,Op,Fd,Ff,HO⟩
       case measure=>simp[intOf];omega
  ·skip
   obtain rfl:j=n:=by omega
   replace Rr:Hid (qAC w1 g (qEu h f d zs ps)):=hZ (by have h1:=Rr.o;have h2:=HTl.o;have h3:=Hzs.o;rw[List.take_of_length_le (by omega),List.drop_eq_nil_of_le (by omega),List.append_nil]at h1;exact h1)
   go_wp2_with fail
   go_end0
   exact⟨⟨_,rfl⟩,Rr.o,HO.o⟩
theorem qCY.form{w:World}{base:Nat}{e:TypeId}{size:Nat}{v:Value}{n:Nat}{xs:List Value}(h:qCY w base e size v n xs):∃a c,v=.slice a n c/\n<=c/\c<=9223372036854775807:=by
 rcases h.1.2 with ⟨hv,rfl⟩|⟨g,cap,cur,hv,_,_,h1,h2,_⟩
 ·exact⟨none,0,hv,by omega,by omega⟩
 ·exact⟨_,cap,hv,h1,by unfold maxLen at h2;exact h2⟩
theorem qCY.ints{w:World}{base:Nat}{v:Value}{ps:List Nat}(h:qCY w base 3 1 v ps.length (ps.map (iv .i64))):qAg w v (ps.map (fun(p:Nat)=>(p:Int))):=by
 refine qF2 (base:=base) (e:=3) ?_;rw[List.length_map,List.map_map];exact h.1
theorem qQ0(a b k:Nat):(2^a*2^b)^k=2^((a+b)*k):=by rw[<-Nat.pow_add,<-Nat.pow_mul]
theorem Sz.of_pow{k l:Nat}{z:Int}(h:z.natAbs<=2^k)(hk:k<l):Sz l z:=by
 unfold Sz;exact Nat.lt_of_le_of_lt h (Nat.pow_lt_pow_right (by omega) hk)
def Sml(M:List (List Int)):Prop:=M.length<=64/\∀r∈M,∀x∈r,x.natAbs<=2^40
theorem qRi{M:List (List Int)}(h:∀r∈M,∀x∈r,x.natAbs<=2^40):∀v∈M.map vec,∀j,(v j).natAbs<=2^40:=by
 intro v hv j;obtain⟨r,hr,rfl⟩:=List.mem_map.1 hv;rcases Nat.lt_or_ge j r.length with hj|hj
 ·rw[qAp hj];exact h r hr _ (List.getElem_mem _)
 ·rw[qAs hj];simp
def qBi(M0 M:List (List Int))(ps:List Nat)(d:Int)(col:Nat):Prop:=
 ∃A:List (List Int),A.length=M0.length/\(∀r,r∈A ↔ r∈M0)/\qB4 (A.map vec) (M.map vec) ps d col/\(Ind (M0.map vec) ↔ Ind (M.map vec))
section
variable {M0 M:List (List Int)}{ps:List Nat}{d:Int}{col:Nat}
theorem qBi.start(M:List (List Int)):qBi M M [] 1 0:=⟨M,rfl,fun _=>Iff.rfl,qB4.start _,Iff.rfl⟩
theorem qBi.len(h:qBi M0 M ps d col):M.length=M0.length:=by
 obtain⟨A,h1,h2,h3,h9⟩:=h;have:=h3.len;simpa[h1]using this
theorem qBi.sz(h:qBi M0 M ps d col)(hs:Sml M0):∀r∈M,∀x∈r,Sz 4000 x:=by
 obtain⟨A,h1,h2,h3,h9⟩:=h;intro r hr x hx;obtain⟨j,hj,rfl⟩:=List.mem_iff_getElem.1 hx;have hm:=h3.minor (vec r) (List.mem_map.2 ⟨r,hr,rfl⟩);have h4:=hm.le (2^40) (2^6) (by rw[List.length_map,h1];exact hs.1) (Nat.pow_pos (by omega)) (qRi (fun r hr=>hs.2 r ((h2 r).1 hr))) j;rw[qQ0,qAp hj]at h4;exact Sz.of_pow h4 (by decide)
theorem qBi.dsz(h:qBi M0 M ps d col)(hs:Sml M0):Sz 4000 d:=by
 have h0:=h.sz hs;obtain⟨A,h1,h2,h3,h9⟩:=h;rcases Nat.eq_zero_or_pos ps.length with hp|hp
 ·have:ps=[]:=List.eq_nil_of_length_eq_zero hp
  subst this;have h4:=h3.d1;simp[det]at h4;rw[h4];exact Sz.one (by omega)
 ·have hlt:0<M.length:=by have:=h3.len;have:=h3.le;simp at *;omega
  have h4:=h3.diag 0 0 (by simpa using hlt) hp hp;rw[if_pos rfl,List.getElem_map]at h4;rw[<-h4];rcases Nat.lt_or_ge ps[0] (M[0]).length with hj|hj
  ·rw[qAp hj];exact h0 _ (List.getElem_mem _) _ (List.getElem_mem _)
  ·rw[qAs hj];exact Sz.zero _
theorem qBi.d0(h:qBi M0 M ps d col):d≠0:=by obtain⟨A,h1,h2,h3,h9⟩:=h;exact h3.d0
theorem qBi.le(h:qBi M0 M ps d col):ps.length<=M.length:=by obtain⟨A,h1,h2,h3,h9⟩:=h;have:=h3.le;have:=h3.len;simp at *;omega
theorem qBi.skip(h:qBi M0 M ps d col)(h0:∀q,ps.length<=q->q<M.length->ent M q col=0):qBi M0 M ps d (col+1):=by
 obtain⟨A,h1,h2,h3,h9⟩:=h;refine⟨A,h1,h2,h3.skip (fun i hi hp=> ?_),h9⟩;have h4:=h0 i hp (by simpa using hi);rw[List.getElem_map];rw[List.length_map]at hi;simpa[ent,hi]using h4
theorem qFD{α β:Type}(f:α->β)(l:List α)(a b:Nat)(ha:a<l.length)(hb:b<l.length):(qAH l a b ha hb).map f=qAH (l.map f) a b (by simpa using ha) (by simpa using hb):=by
 simp[qAH,List.map_set]
theorem qBi.swap(h:qBi M0 M ps d col)(a b:Nat)(ha:a<M.length)(hb:b<M.length)(h1:ps.length<=a)(h2:ps.length<=b):qBi M0 (qAH M a b ha hb) ps d col:=by
 obtain⟨A,e1,e2,e3,e9⟩:=h;have hl:M.length=A.length:=by have:=e3.len;simpa using this
 have:=e3.swap a b (by simpa using ha) (by simpa using hb) h1 h2;rw[<-qFD,<-qFD]at this
 ·exact⟨qAH A a b (by omega) (by omega),by rw[qAe,e1],fun r=>⟨fun hr=>(e2 r).1 (qFC r hr),fun hr=>qGU r ((e2 r).2 hr)⟩,this,by rw[qFD];exact e9.trans (Ind.swap_iff _ _)⟩
 all_goals omega
def qDS(M:List (List Int))(place col:Nat)(d:Int):List (List Int):=
 M.mapIdx (fun i r=>if i=place then r else qEu (ent M place col) (vec r col) d r (M[place]?.getD []))
theorem qBx{place:Nat}:(qDS M place col d).length=M.length:=by simp[qDS]
theorem qCm{place i:Nat}(hi:i<M.length)(hp:place<M.length):(qDS M place col d)[i]'(by rw[qBx];exact hi)=if i=place then M[i]else qEu (ent M place col) (vec M[i] col) d M[i] M[place]:=by
 simp[qDS,hp]
theorem qMi{h f d:Int}{zs ps:List Int}(hl:zs.length=ps.length)(j:Nat):vec (qEu h f d zs ps) j=(h*vec zs j-f*vec ps j)/d:=by
 rcases Nat.lt_or_ge j zs.length with hj|hj
 ·rw[qAp (by simp[qEu];omega),qDU _ hj (by omega),qAp hj,qAp (by omega)]
 ·rw[qAs (by simp[qEu];omega),qAs hj,qAs (by omega)];simp
theorem qBi.step{n:Nat}(h:qBi M0 M ps d col)(hn:∀r∈M,r.length=n)(hk:ps.length<M.length)(hc:ent M ps.length col≠0):qBi M0 (qDS M ps.length col d) (ps++[col]) (ent M ps.length col) (col+1):=by
 obtain⟨A,e1,e2,e3,e9⟩:=h;have hk':ps.length<(M.map vec).length:=by simpa using hk
 have he:ent M ps.length col=(M.map vec)[ps.length] col:=by simp[ent,hk]
 rw[he]at hc;have:=e3.step hk' hc ((qDS M ps.length col d).map vec) (by simp[qBx]) (fun h' j=>by
  rw[List.getElem_map,List.getElem_map,qCm hk hk,if_pos rfl]) (fun i hi hi' hne j=>by
  rw[List.length_map]at hi;rw[List.getElem_map,qCm hi hk,if_neg hne,qMi (by rw[hn _ (List.getElem_mem _),hn _ (List.getElem_mem _)]),<-he];simp[ent,hk])
 rw[<-he]at this
 --the steps of rows
 have hs:∀i (hi:i<M.length) j,i≠ps.length->d*vec ((qDS M ps.length col d)[i]'(by rw[qBx];exact hi)) j=ent M ps.length col*vec M[i] j-vec M[i] col*vec M[ps.length] j:=fun i hi j hne=>by
  obtain⟨Y, -,y2,-⟩:=e3.exact hk' hc i (by simpa using hi) hne;have h1:=y2 j;rw[<-he]at h1;simp only[List.getElem_map]at h1;rw[qCm hi hk,if_neg hne,qMi (by rw[hn _ (List.getElem_mem _),hn _ (List.getElem_mem _)]),<-h1,Int.mul_ediv_cancel_left _ e3.d0]
 have hpp:(qDS M ps.length col d)[ps.length]'(by rw[qBx];exact hk)=M[ps.length]:=by rw[qCm hk hk,if_pos rfl]
 refine⟨A,e1,e2,this,e9.trans ⟨fun hI=> ?_,fun hI=> ?_⟩⟩
 ·refine hI.step (c:=d) (α:=fun i=>if i=ps.length then d else ent M ps.length col) (β:=fun i=>if i=ps.length then 0 else -vec (M[i]?.getD []) col) (p:=ps.length) (col:=col) (by simp[qBx]) (by simpa using hk) (fun i hi hi' j=> ?_) (fun i hi hip=>by simp only[if_neg hip];rw[he];exact hc) (fun j=>by simp only[List.getElem_map];rw[hpp]) hc
  simp only[List.length_map]at hi;simp only[List.getElem_map];by_cases hip:i=ps.length
  ·subst hip;rw[hpp,if_pos rfl,if_pos rfl];omega
  ·rw[if_neg hip,if_neg hip,hs i hi j hip]
   simp only[List.getElem?_eq_getElem hi,Option.getD_some,Int.neg_mul];omega
 ·refine hI.step (c:=ent M ps.length col) (α:=fun i=>if i=ps.length then ent M ps.length col else d) (β:=fun i=>if i=ps.length then 0 else vec (M[i]?.getD []) col) (p:=ps.length) (col:=col) (by simp[qBx]) (by simp[qBx];exact hk) (fun i hi hi' j=> ?_) (fun i hi hip=>by simp only[if_neg hip];exact e3.d0) (fun j=>by simp only[List.getElem_map];rw[hpp]) (by simp only[List.getElem_map];rw[hpp];have h7:=hc;simpa using h7)
  simp only[List.length_map]at hi';simp only[List.getElem_map];by_cases hip:i=ps.length
  ·subst hip;rw[hpp,if_pos rfl,if_pos rfl];omega
  ·rw[if_neg hip,if_neg hip,hpp,hs i hi' j hip]
   simp only[List.getElem?_eq_getElem hi',Option.getD_some];omega
end
end Go.Proofs.YtkjhlkngihponaaGreatDoor
