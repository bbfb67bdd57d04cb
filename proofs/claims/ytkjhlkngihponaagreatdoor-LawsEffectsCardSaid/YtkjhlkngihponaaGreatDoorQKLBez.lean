/- lattice.bezout. -/
import Derived.Test.YtkjhlkngihponaaGreatDoorQKLSmall
import Derived.Test.YtkjhlkngihponaaGreatDoorQKLRow
import Derived.Test.YtkjhlkngihponaaGreatDoorQKWDivide
set_option linter.unusedVariables false
set_option linter.unusedSimpArgs false
set_option maxHeartbeats 4000000
namespace Go.Proofs.YtkjhlkngihponaaGreatDoor

def qC2(r:Vec)(c:Nat):Prop:=(∀j,j<c->r j=0)/\r c≠0
theorem qC2.uniq{r:Vec}{c e:Nat}(h:qC2 r c)(h2:qC2 r e):c=e:=by
 rcases Nat.lt_trichotomy c e with h3|h3|h3
 ·exact absurd (h2.1 c h3) h.2
 ·exact h3
 ·exact absurd (h.1 e h3) h2.2
def Nrm:Nat->List Vec->Prop
 |_,[]=>True
 |lo,r::rs=>∃c,lo<=c/\qC2 r c/\0<r c/\Nrm (c+1) rs/\∀s∈rs,∀e,qC2 s e->0<=r e/\r e<s e
theorem Nrm.low:∀{lo:Nat} {B:List Vec} {v:Vec},Nrm lo B->qAa B v->∀j,j<lo->v j=0
 |lo,[],v,_,h,j,_=>by
  obtain⟨q,hq⟩:=h;rw[hq];cases q<;>simp[comb]
 |lo,r::rs,v,⟨c,h1,h2,h3,h4,_⟩,h,j,hj=>by
  obtain⟨q,hq⟩:=h;rw[hq];cases q with
  |nil=>simp[comb]
  |cons x q=>
   have:=Nrm.low h4 (v:=comb q rs) ⟨q,fun _=>rfl⟩ j (by omega);simp[comb,this,h2.1 j (by omega)]
theorem qC9{r:Vec}{rs:List Vec}{v:Vec}(h:qAa (r::rs) v):∃x w,qAa rs w/\∀j,v j=x*r j+w j:=by
 obtain⟨q,hq⟩:=h;cases q with
 |nil=>exact⟨0,fun _=>0,qAa.zero,fun j=>by rw[hq];simp[comb]⟩
 |cons x q=>exact⟨x,comb q rs,⟨q,fun _=>rfl⟩,fun j=>by rw[hq];simp[comb]⟩
theorem qBy{r:Vec}{rs:List Vec}{v:Vec}(h:qAa rs v):qAa (r::rs) v:=h.trans (fun r hr=>qAa.mem (by simp[hr]))
theorem Nrm.tail{c:Nat}{r:Vec}{rs:List Vec}{v:Vec}(hp:r c≠0)(h:Nrm (c+1) rs)(hv:qAa (r::rs) v)(h0:v c=0):qAa rs v:=by
 obtain⟨x,w,hw,he⟩:=qC9 hv;have h1:=he c;rw[h0,h.low hw c (by omega)]at h1;have h2:x*r c=0:=by omega
 obtain rfl:=(Int.mul_eq_zero.1 h2).resolve_right hp;exact hw.congr (fun j=>by rw[he];simp)
theorem Nrm.small:∀{lo:Nat} {B:List Vec} {w:Vec},Nrm lo B->qAa B w->(∀s∈B,∀e,qC2 s e->w e<s e/\ -(w e)<s e)->∀j,w j=0
 |lo,[],w,_,h,_,j=>by
  obtain⟨q,hq⟩:=h;rw[hq];cases q<;>simp[comb]
 |lo,r::rs,w,⟨c,h1,h2,h3,h4,_⟩,h,hs,j=>by
  obtain⟨x,u,hu,he⟩:=qC9 h;have h5:=hs r (by simp) c h2;have h6:w c=x*r c:=by rw[he,h4.low hu c (by omega)];omega
  rw[h6]at h5;have hx:x=0:=by
   rcases Int.lt_trichotomy x 0 with hx|hx|hx
   ·have:r c*1<=r c*(-x):=Int.mul_le_mul_of_nonneg_left (by omega) (by omega)
    have e: -(x*r c)=r c*(-x):=by grind
    omega
   ·exact hx
   ·have:r c*1<=r c*x:=Int.mul_le_mul_of_nonneg_left (by omega) (by omega)
    have e:x*r c=r c*x:=by grind
    omega
  subst hx;have he':∀j,w j=u j:=fun j=>by rw[he];simp
  rw[he'];exact h4.small hu (fun s hsm e hp=>by rw[<-he'];exact hs s (by simp[hsm]) e hp) j
theorem qDn{v:Vec}(h:qAa [] v)(j:Nat):v j=0:=by
 obtain⟨q,hq⟩:=h;rw[hq];cases q<;>simp[comb]
theorem Nrm.pivot_le{lo lo' c:Nat}{r:Vec}{B:List Vec}(hr:qC2 r c)(h:qAa B r)(hB:Nrm lo' B):lo'<=c:=by
 rcases Nat.lt_or_ge c lo' with h1|h1
 ·exact absurd (hB.low h c h1) hr.2
 ·exact h1
theorem Nrm.uniq:∀{lo lo':Nat} {B B':List Vec},Nrm lo B->Nrm lo' B'->(∀v,qAa B v->qAa B' v)->(∀v,qAa B' v->qAa B v)->B=B'
 |_,_,[],[],_,_,_,_=>rfl
 |_,_,r::rs,[],⟨c,_,h,_⟩,_,h1,_=>absurd (qDn (h1 r (qAa.mem (by simp))) c) h.2
 |_,_,[],r::rs,_,⟨c,_,h,_⟩,_,h2=>absurd (qDn (h2 r (qAa.mem (by simp))) c) h.2
 |lo,lo',r::rs,r'::rs',⟨c,a1,a2,a3,a4,a5⟩,⟨c',b1,b2,b3,b4,b5⟩,h1,h2=>by
  have hr':qAa (r'::rs') r:=h1 r (qAa.mem (by simp));have hr:qAa (r::rs) r':=h2 r' (qAa.mem (by simp));have nB:Nrm c (r::rs):=⟨c,Nat.le_refl _,a2,a3,a4,a5⟩;have nB':Nrm c' (r'::rs'):=⟨c',Nat.le_refl _,b2,b3,b4,b5⟩;obtain rfl:c=c':=by
   have e1:=Nrm.pivot_le (lo:=0) a2 hr' nB';have e2:=Nrm.pivot_le (lo:=0) b2 hr nB;omega
  obtain⟨x,w,hw,he⟩:=qC9 hr';obtain⟨y,u,hu,hf⟩:=qC9 hr;have e1:r c=x*r' c:=by rw[he,b4.low hw c (by omega)];omega
  have e2:r' c=y*r c:=by rw[hf,a4.low hu c (by omega)];omega
  have hx0:0<x:=by
   rcases Int.lt_or_le 0 x with h|h
   ·exact h
   ·have:=Int.mul_nonneg (show 0<= -x by omega) (show 0<=r' c by omega)
    have e: -x*r' c= -(x*r' c):=Int.neg_mul _ _;omega
  have hy0:0<y:=by
   rcases Int.lt_or_le 0 y with h|h
   ·exact h
   ·have:=Int.mul_nonneg (show 0<= -y by omega) (show 0<=r c by omega)
    have e: -y*r c= -(y*r c):=Int.neg_mul _ _;omega
  have hle1:r' c<=r c:=by
   have:1*r' c<=x*r' c:=Int.mul_le_mul_of_nonneg_right (by omega) (by omega);omega
  have hle2:r c<=r' c:=by
   have:1*r c<=y*r c:=Int.mul_le_mul_of_nonneg_right (by omega) (by omega);omega
  have hcc:r c=r' c:=by omega
  have t1:∀v,qAa rs v->qAa rs' v:=fun v hv=>b4.tail b2.2 (h1 v (qBy hv)) (a4.low hv c (by omega));have t2:∀v,qAa rs' v->qAa rs v:=fun v hv=>a4.tail a2.2 (h2 v (qBy hv)) (b4.low hv c (by omega));obtain rfl:=Nrm.uniq a4 b4 t1 t2;have hd:qAa rs (fun j=>r j-r' j):=b4.tail b2.2 (hr'.sub (qAa.mem (by simp))) (by show r c-r' c=0;omega);have h0:=a4.small hd (fun s hs e hp=>by
   have g1:=a5 s hs e hp;have g2:=b5 s hs e hp
   show r e-r' e<s e/\ -(r e-r' e)<s e
   omega)
  have:r=r':=funext (fun j=>by have:r j-r' j=0:=h0 j;omega);rw[this]
def res(ps:List Nat)(v:Vec):Vec:=fun t=>if h:t<ps.length then v ps[t]else 0
theorem qHs(ps:List Nat):∀(q:List Int) (A:List Vec) (t:Nat),res ps (comb q A) t=comb q (A.map (res ps)) t
 |[],A,t=>by cases A<;>simp[res,comb]
 |x::q,[],t=>by simp[res,comb]
 |x::q,r::A,t=>by
  have:=qHs ps q A t;unfold res at this ⊢;simp only[List.map_cons,comb]
  split
  ·next h=>rw[dif_pos h]at this;rw[this]
  ·next h=>rw[dif_neg h]at this;rw[<-this];simp
def qBg(u:Vec):List Vec->Nat->Vec
 |[],_=>fun _=>0
 |r::M,s=>fun j=>u s*r j+qBg u M (s+1) j
theorem qND(ps:List Nat)(v:Vec)(j:Nat):∀(n s:Nat) (M:List Vec),s+n=ps.length->M.length=n->fit (ps.drop s) M v j=qBg (res ps v) M s j
 |0,s,M,h1,h2=>by
  obtain rfl:=List.eq_nil_of_length_eq_zero h2;rw[List.drop_eq_nil_of_le (by omega)];rfl
 |n+1,s,r::M,h1,h2=>by
  rw[List.drop_eq_getElem_cons (show s<ps.length by omega)];simp only[fit,qBg];rw[qND ps v j n (s+1) M (by omega) (by simpa using h2)];simp[res,show s<ps.length by omega]
 |n+1,s,[],h1,h2=>by simp at h2
theorem qCB(u u':Vec)(j:Nat):∀(M:List Vec) (s:Nat),(∀t,s<=t->t<s+M.length->u t=u' t)->qBg u M s j=qBg u' M s j
 |[],s,_=>rfl
 |r::M,s,h=>by
  simp only[qBg];rw[h s (Nat.le_refl _) (by simp),qCB u u' j M (s+1) (fun t h1 h2=>h t (by omega) (by simp;omega))]
theorem qBs(u:Vec)(j:Nat):∀(M:List Vec) (s:Nat),(∀t (h:t<M.length),u (s+t)*M[t] j=0)->qBg u M s j=0
 |[],s,_=>rfl
 |r::M,s,h=>by
  simp only[qBg];have h0:=h 0 (by simp);simp only[Nat.add_zero,List.getElem_cons_zero]at h0;rw[h0,qBs u j M (s+1) (fun t ht=>by
   have:=h (t+1) (by simpa using ht);rw[show s+1+t=s+(t+1) by omega];simpa using this)]
  rfl
structure Tri(n:Nat)(Sq:List Vec)(R:List Vec):Prop where
 len:Sq.length=n
 low:∀i (h:i<Sq.length),∀t,t<i->Sq[i] t=0
 pos:∀i (h:i<Sq.length),0<Sq[i] i
 red:∀s i (h:i<Sq.length) (_:s<i),0<=(Sq[s]'(by omega)) i/\(Sq[s]'(by omega)) i<Sq[i] i
 into:∀r∈Sq,qAa R r
 onto:∀r∈R,qAa Sq r
section
variable {A M Sq V:List Vec}{ps:List Nat}{d:Int}{col:Nat}
theorem qB4.coord(h:qB4 A M ps d col)(h0:∀i (h:i<M.length),ps.length<=i->∀j,M[i] j=0){v:Vec}(hv:qAa A v)(j:Nat):d*v j=qBg (res ps v) (M.take ps.length) 0 j:=by
 have key:d*v j=fit ps (M.take ps.length) v j:=by
  refine hv.lin (P:=fun v=>d*v j=fit ps (M.take ps.length) v j) ?_ ?_ ?_ ?_
  ·rw[qCP _ _ _ _ (fun _ _=>rfl)];simp
  ·intro x u w hu hw
   simp only[]at hu hw ⊢;rw[qEN,<-hu,<-hw]
   grind
  ·intro u w he hu
   show d*w j=fit ps (M.take ps.length) w j
   rw[<-he j,hu,qIS _ _ _ _ _ (fun c _=>he c)]
  ·intro r hr
   obtain⟨i,hi,rfl⟩:=List.mem_iff_getElem.1 hr;have h1:=h.inv i (by rw[h.len];exact hi) hi j;rw[h1]
   split
   ·next hk=>rw[h0 i _ hk j];omega
   ·omega
 rw[key];have:=qND ps v j ps.length 0 (M.take ps.length) (by omega) (by have:=h.len;have:=h.le;simp;omega);simpa using this
structure qRe(V Sq M:List Vec)(k:Nat)(d:Int):Prop where
 len:V.length=Sq.length
 eq:∀i (h:i<V.length) (h':i<Sq.length) (j:Nat),V[i] j=qBg Sq[i] (M.take k) 0 j/d
theorem qB4.extd(h:qB4 A M ps d col)(h0:∀i (h:i<M.length),ps.length<=i->∀j,M[i] j=0)(ht:Tri ps.length Sq (A.map (res ps)))(hv:qRe V Sq M ps.length d)(i:Nat)(hi:i<V.length):
 qAa A V[i]/\(∀j,d*V[i] j=qBg (Sq[i]'(by rw[<-hv.len];exact hi)) (M.take ps.length) 0 j)/\∀t (h:t<ps.length),V[i] ps[t]=(Sq[i]'(by rw[<-hv.len];exact hi)) t:=by
 have hi':i<Sq.length:=by rw[<-hv.len];exact hi
 obtain⟨q,hq⟩:=ht.into Sq[i] (List.getElem_mem hi');have hs:qAa A (comb q A):=⟨q,fun _=>rfl⟩;have hr:∀t,res ps (comb q A) t=Sq[i] t:=fun t=>by rw[qHs,hq]
 have e1:∀j,d*comb q A j=qBg Sq[i] (M.take ps.length) 0 j:=fun j=>by
  rw[h.coord h0 hs j];exact qCB _ _ _ _ _ (fun t _ _=>hr t)
 have e2:∀j,V[i] j=comb q A j:=fun j=>by rw[hv.eq i hi hi' j,<-e1 j,Int.mul_ediv_cancel_left _ h.d0]
 refine⟨hs.congr (fun j=>(e2 j).symm),fun j=>by rw[e2,e1],fun t htp=> ?_⟩;rw[e2,<-hr t];simp[res,htp]
theorem qB4.extd_span(h:qB4 A M ps d col)(h0:∀i (h:i<M.length),ps.length<=i->∀j,M[i] j=0)(ht:Tri ps.length Sq (A.map (res ps)))(hv:qRe V Sq M ps.length d):
 (∀v,qAa V v->qAa A v)/\(∀v,qAa A v->qAa V v):=by
 have hVA:∀r∈V,qAa A r:=fun r hr=>by
  obtain⟨i,hi,rfl⟩:=List.mem_iff_getElem.1 hr;exact(h.extd h0 ht hv i hi).1
 refine⟨fun v hv'=>hv'.trans hVA,fun v hv'=>hv'.trans (fun r hr=> ?_)⟩;obtain⟨q,hq⟩:=ht.onto (res ps r) (List.mem_map.2 ⟨r,hr,rfl⟩)
 --the coordinates of the combination of V agree
 have hc:∀(q:List Int) (n:Nat) (t:Nat) (_:t<ps.length),comb q (V.drop n) ps[t]=comb q (Sq.drop n) t:=by
  intro q
  induction q with
  |nil=>intro n t _;cases V.drop n<;>cases Sq.drop n<;>simp[comb]
  |cons x q ih=>
   intro n t htp;rcases Nat.lt_or_ge n V.length with hn|hn
   ·rw[List.drop_eq_getElem_cons hn,List.drop_eq_getElem_cons (show n<Sq.length by rw[<-hv.len];exact hn)]
    simp only[comb];rw[ih (n+1) t htp,(h.extd h0 ht hv n hn).2.2 t htp]
   ·rw[List.drop_eq_nil_of_le hn,List.drop_eq_nil_of_le (by rw[<-hv.len];exact hn)]
    simp[comb]
 have hw:qAa A (fun j=>r j-comb q V j):=(qAa.mem hr).sub ((show qAa V (comb q V)from⟨q,fun _=>rfl⟩).trans hVA);refine⟨q,fun j=> ?_⟩;have h1:=h.coord h0 hw j;rw[qBs _ _ _ _ (fun t htl=>by
  have htp:t<ps.length:=by rw[List.length_take]at htl;omega
  have e:res ps (fun j=>r j-comb q V j) (0+t)=0:=by
   rw[Nat.zero_add];simp only[res,dif_pos htp];have h2:=hc q 0 t htp;rw[List.drop_zero,List.drop_zero]at h2;rw[h2,<-hq t];simp[res,htp]
  rw[e,Int.zero_mul])]at h1
 have:=(Int.mul_eq_zero.1 h1).resolve_left h.d0;omega
theorem qB4.extd_low(h:qB4 A M ps d col)(h0:∀i (h:i<M.length),ps.length<=i->∀j,M[i] j=0)(ht:Tri ps.length Sq (A.map (res ps)))(hv:qRe V Sq M ps.length d)(i:Nat)(hi:i<V.length)(hip:i<ps.length):
 qC2 V[i] ps[i]/\0<V[i] ps[i]:=by
 have hi':i<Sq.length:=by rw[<-hv.len];exact hi
 obtain⟨h1,h2,h3⟩:=h.extd h0 ht hv i hi;have h4:=h3 i hip;have h5:=ht.pos i hi';refine⟨⟨fun j hj=> ?_,by omega⟩,by omega⟩;have h6:=h2 j;rw[qBs _ _ _ _ (fun t htl=>by
  have htp:t<ps.length:=by rw[List.length_take]at htl;omega
  rw[Nat.zero_add];rcases Nat.lt_or_ge t i with h7|h7
  ·rw[ht.low i hi' t h7,Int.zero_mul]
  ·rw[List.getElem_take,h.left t (by rw[List.length_take]at htl;omega) htp j (by
    rcases Nat.lt_or_ge i t with h8|h8
    ·have:=List.pairwise_iff_getElem.1 h.sorted i t hip htp h8;omega
    ·obtain rfl:i=t:=by omega
     exact hj),Int.mul_zero])]at h6
 exact(Int.mul_eq_zero.1 h6).resolve_left h.d0
theorem qB4.extd_nrm(h:qB4 A M ps d col)(h0:∀i (h:i<M.length),ps.length<=i->∀j,M[i] j=0)(ht:Tri ps.length Sq (A.map (res ps)))(hv:qRe V Sq M ps.length d):∀(n i lo:Nat),i+n=V.length->(∀hi:i<ps.length,lo<=ps[i])->Nrm lo (V.drop i)
 |0,i,lo,hn,_=>by rw[List.drop_eq_nil_of_le (by omega)];trivial
 |n+1,i,lo,hn,hlo=>by
  have hl1:=hv.len;have hl2:=ht.len;have hip:i<ps.length:=by omega
  have h1:=h.extd_low h0 ht hv i (by omega) hip;rw[List.drop_eq_getElem_cons (show i<V.length by omega)];refine⟨ps[i],hlo hip,h1.1,h1.2,qB4.extd_nrm h h0 ht hv n (i+1) _ (by omega) (fun hi2=>by have:=List.pairwise_iff_getElem.1 h.sorted i (i+1) hip hi2 (by omega);omega),fun s hs e hp=> ?_⟩;obtain⟨t,ht',rfl⟩:=List.mem_iff_getElem.1 hs;rw[List.length_drop]at ht';rw[List.getElem_drop]at hp ⊢;have h2:=h.extd_low h0 ht hv (i+1+t) (by omega) (by omega);obtain rfl:=h2.1.uniq hp;have h3:=(h.extd h0 ht hv i (by omega)).2.2 (i+1+t) (by omega);have h4:=(h.extd h0 ht hv (i+1+t) (by omega)).2.2 (i+1+t) (by omega);rw[h3,h4];exact ht.red i (i+1+t) (by omega) (by omega)
end
def qCa(m:Int)(k:Nat):Vec:=fun t=>if t=k then m else 0
theorem qCd{L:List Vec}{m:Int}:∀(n:Nat) (j:Nat) (w:Vec),(∀k,j<=k->k<n->qAa L (qCa m k))->(∀k,k<j->w k=0)->(∀k,n<=k->w k=0)->(∀k,m∣w k)->qAa L w
 |0,j,w,_,_,h2,_=>qAa.zero.congr (fun k=>(h2 k (by omega)).symm)
 |n+1,j,w,hL,h1,h2,h3=>by
  rcases Nat.lt_or_ge n j with hn|hn
  ·exact qAa.zero.congr (fun k=>by
    rcases Nat.lt_or_ge k j with h|h
    ·exact(h1 k h).symm
    ·exact(h2 k (by omega)).symm)
  ·obtain⟨x,hx⟩:=h3 n
   have ih:=qCd (L:=L) (m:=m) n j (fun k=>if k=n then 0 else w k) (fun k a b=>hL k a (by omega)) (fun k hk=>by
    split
    ·rfl
    ·exact h1 k hk) (fun k hk=>by
    split
    ·rfl
    ·exact h2 k (by omega)) (fun k=>by
    split
    ·exact⟨0,by simp⟩
    ·exact h3 k)
   refine(ih.add ((hL n hn (by omega)).smul x)).congr (fun k=> ?_)
   show(if k=n then 0 else w k)+x*qCa m n k=w k
   unfold qCa;by_cases hk:k=n
   ·subst hk
    rw[if_pos rfl,if_pos rfl,hx,Int.zero_add,Int.mul_comm]
   ·rw[if_neg hk,if_neg hk]
    omega
structure qBD(m:Int)(n j:Nat)(row add row' add':Vec):Prop where
 zero:∀k,k<j->row' k=0
 pos:0<row' j
 addz:∀k,k<=j->add' k=0
 top:∀k,n<=k->row' k=0/\add' k=0
 into:∀L:List Vec,(∀k,j<k->k<n->qAa L (qCa m k))->qAa (row::add::L) row'/\qAa (row::add::L) add'
 onto:∀L:List Vec,(∀k,j<k->k<n->qAa L (qCa m k))->qAa (row'::add'::L) row/\qAa (row'::add'::L) add
theorem qFj{a b:Vec}{L:List Vec}(x y:Int){w z:Vec}(hz:qAa L z)(h:∀k,w k=x*a k+y*b k+z k):qAa (a::b::L) w:=by
 have h1:qAa (a::b::L) a:=qAa.mem (by simp);have h2:qAa (a::b::L) b:=qAa.mem (by simp);have h3:qAa (a::b::L) z:=hz.trans (fun r hr=>qAa.mem (by simp[hr]));exact(((h1.smul x).add (h2.smul y)).add h3).congr (fun k=>(h k).symm)
theorem qBD.mk'{m:Int}{n j:Nat}{row add row' add':Vec}(u v c d:Int)(hdet:u*d-v*c=1)(hr:∀k,k<j->row k=0)(ha:∀k,k<j->add k=0)(hrt:∀k,n<=k->row k=0)(hat:∀k,n<=k->add k=0)(hjn:j<n)
 (hpos:0<row' j)(hj1:row' j=u*row j+v*add j)(hj2:add' j=0)(hj3:c*row j+d*add j=0)
 (h1:∀k,k<j->row' k=row k)(h2:∀k,k<j->add' k=add k)(h1t:∀k,n<=k->row' k=0)(h2t:∀k,n<=k->add' k=0)
 (h3:∀k,j<k->k<n->m∣(u*row k+v*add k)-row' k)(h4:∀k,j<k->k<n->m∣(c*row k+d*add k)-add' k):qBD m n j row add row' add':=by
 have w1:∀L:List Vec,(∀k,j<k->k<n->qAa L (qCa m k))->qAa L (fun k=>(u*row k+v*add k)-row' k):=fun L hL=>by
  refine qCd n (j+1) _ (fun k a b=>hL k (by omega) b) (fun k hk=> ?_) (fun k hk=> ?_) (fun k=> ?_)
  ·show u*row k+v*add k-row' k=0
   rcases Nat.lt_or_ge k j with h|h
   ·rw[h1 k h,hr k h,ha k h];simp
   ·obtain rfl:k=j:=by omega
    omega
  ·show u*row k+v*add k-row' k=0
   rw[h1t k hk,hrt k hk,hat k hk];simp
  ·show m∣u*row k+v*add k-row' k
   rcases Nat.lt_or_ge k (j+1)with h|h
   ·refine⟨0,?_⟩
    rcases Nat.lt_or_ge k j with h5|h5
    ·rw[h1 k h5,hr k h5,ha k h5];simp
    ·obtain rfl:k=j:=by omega
     omega
   ·rcases Nat.lt_or_ge k n with h5|h5
    ·exact h3 k (by omega) h5
    ·exact⟨0,by rw[h1t k h5,hrt k h5,hat k h5];simp⟩
 have w2:∀L:List Vec,(∀k,j<k->k<n->qAa L (qCa m k))->qAa L (fun k=>(c*row k+d*add k)-add' k):=fun L hL=>by
  refine qCd n (j+1) _ (fun k a b=>hL k (by omega) b) (fun k hk=> ?_) (fun k hk=> ?_) (fun k=> ?_)
  ·show c*row k+d*add k-add' k=0
   rcases Nat.lt_or_ge k j with h|h
   ·rw[h2 k h,hr k h,ha k h];simp
   ·obtain rfl:k=j:=by omega
    omega
  ·show c*row k+d*add k-add' k=0
   rw[h2t k hk,hrt k hk,hat k hk];simp
  ·show m∣c*row k+d*add k-add' k
   rcases Nat.lt_or_ge k (j+1)with h|h
   ·refine⟨0,?_⟩
    rcases Nat.lt_or_ge k j with h5|h5
    ·rw[h2 k h5,hr k h5,ha k h5];simp
    ·obtain rfl:k=j:=by omega
     omega
   ·rcases Nat.lt_or_ge k n with h5|h5
    ·exact h4 k (by omega) h5
    ·exact⟨0,by rw[h2t k h5,hrt k h5,hat k h5];simp⟩
 refine⟨fun k hk=>by rw[h1 k hk,hr k hk],hpos,fun k hk=> ?_,fun k hk=>⟨h1t k hk,h2t k hk⟩,fun L hL=>⟨?_,?_⟩,fun L hL=>⟨?_,?_⟩⟩
 ·rcases Nat.lt_or_ge k j with h|h
  ·rw[h2 k h,ha k h]
  ·obtain rfl:k=j:=by omega
   exact hj2
 ·exact qFj u v ((w1 L hL).smul (-1)) (fun k=>by show row' k=_+ -1*(u*row k+v*add k-row' k);omega)
 ·exact qFj c d ((w2 L hL).smul (-1)) (fun k=>by show add' k=_+ -1*(c*row k+d*add k-add' k);omega)
 ·refine qFj d (-v) (((w1 L hL).smul d).add ((w2 L hL).smul (-v))) (fun k=> ?_)
  show row k=d*row' k+ -v*add' k+(d*(u*row k+v*add k-row' k)+ -v*(c*row k+d*add k-add' k))
  have e:row k=(u*d-v*c)*row k:=by rw[hdet];omega
  grind
 ·refine qFj (-c) u (((w1 L hL).smul (-c)).add ((w2 L hL).smul u)) (fun k=> ?_)
  show add k= -c*row' k+u*add' k+(-c*(u*row k+v*add k-row' k)+u*(c*row k+d*add k-add' k))
  have e:add k=(u*d-v*c)*add k:=by rw[hdet];omega
  grind
def qH0(m:Int)(n:Nat):Nat->List Vec->Prop
 |j,[]=>j=n
 |j,r::rs=>j<n/\(∀k,k<j->r k=0)/\0<r j/\(∀k,n<=k->r k=0)/\qAa (r::rs) (qCa m j)/\qH0 m n (j+1) rs
theorem qH0.unit{m:Int}{n:Nat}:∀{j:Nat} {L:List Vec},qH0 m n j L->∀k,j<=k->k<n->qAa L (qCa m k)
 |j,[],h,k,h1,h2=>by
  have:j=n:=h;omega
 |j,r::rs,⟨_,_,_,_,h5,h6⟩,k,h1,h2=>by
  rcases Nat.lt_or_ge j k with h|h
  ·exact qBy (h6.unit k h h2)
  ·obtain rfl:k=j:=by omega
   exact h5
theorem qH0.len{m:Int}{n:Nat}:∀{j:Nat} {L:List Vec},qH0 m n j L->j+L.length=n
 |j,[],h=>h
 |j,r::rs,⟨_,_,_,_,_,h6⟩=>by have:=h6.len;simp;omega
inductive Ins(m:Int)(n:Nat):Nat->List Vec->Vec->List Vec->Prop
 |nil (j:Nat) (a:Vec):Ins m n j [] a []
 |cons {j:Nat} {row a row' a':Vec} {rest rest':List Vec} (h:qBD m n j row a row' a') (h2:Ins m n (j+1) rest a' rest'):Ins m n j (row::rest) a (row'::rest')
theorem Ins.spec{m:Int}{n:Nat}{j:Nat}{L L':List Vec}{a:Vec}(h:Ins m n j L a L'):qH0 m n j L->(∀k,k<j->a k=0)->(∀k,n<=k->a k=0)->
 qH0 m n j L'/\(∀r∈L',qAa (a::L) r)/\(∀r∈a::L,qAa L' r):=by
 induction h with
 |nil j a=>
  intro ht h1 h2;obtain rfl:j=n:=ht;refine⟨rfl,by simp,fun r hr=> ?_⟩;simp at hr;subst hr;exact qAa.zero.congr (fun k=>by
   rcases Nat.lt_or_ge k j with h|h
   ·exact(h1 k h).symm
   ·exact(h2 k h).symm)
 | @cons j row a row' a' rest rest' hs hi ih=>
  intro ht h1 h2;obtain⟨t1,t2,t3,t4,t5,t6⟩:=ht;obtain⟨i1,i2,i3⟩:=ih t6 (fun k hk=>hs.addz k (by omega)) (fun k hk=>(hs.top k hk).2);have hu:∀k,j<k->k<n->qAa rest (qCa m k):=fun k hk hk2=>t6.unit k hk hk2;obtain⟨n1,n2⟩:=hs.into rest hu;obtain⟨o1,o2⟩:=hs.onto rest hu
  --the span of the old ones lies in that of the new ones
  have q1:∀v,qAa (row'::a'::rest) v->qAa (row'::rest') v:=fun v hv=>hv.trans (fun r hr=>by
   rcases List.mem_cons.1 hr with rfl|hr
   ·exact qAa.mem (by simp)
   ·exact qBy (i3 r hr))
  have q2:∀r∈a::row::rest,qAa (row'::rest') r:=fun r hr=>by
   rcases List.mem_cons.1 hr with rfl|hr
   ·exact q1 _ o2
   ·rcases List.mem_cons.1 hr with rfl|hr
    ·exact q1 _ o1
    ·exact qBy (i3 r (by simp[hr]))
  have q3:∀v,qAa (row::a::rest) v->qAa (a::row::rest) v:=fun v hv=>hv.trans (fun r hr=>qAa.mem (by
   simp only[List.mem_cons]at hr ⊢;rcases hr with h|h|h
   ·exact .inr (.inl h)
   ·exact .inl h
   ·exact .inr (.inr h)))
  refine⟨⟨t1,hs.zero,hs.pos,fun k hk=>(hs.top k hk).1,t5.trans (fun r hr=>q2 r (by simp only[List.mem_cons]at hr ⊢;exact .inr hr)),i1⟩,fun r hr=> ?_,q2⟩;rcases List.mem_cons.1 hr with rfl|hr
  ·exact q3 _ n1
  ·exact(i2 r hr).trans (fun r hr=>by
    rcases List.mem_cons.1 hr with rfl|hr
    ·exact q3 _ n2
    ·exact qAa.mem (by simp[hr]))
structure qDK(m:Int)(n i:Nat)(rest:List Vec)(row row':Vec)(k0:Nat):Prop where
 at_:∀t,t<=i->row' t=row t
 top:∀t,n<=t->row' t=0
 diff:qAa rest (fun t=>row t-row' t)
 red:∀t (h:t-(i+1)<rest.length),i<t->t<k0->0<=row' t/\row' t<rest[t-(i+1)] t
inductive qMd(m:Int)(n:Nat):Nat->List Vec->List Vec->Prop
 |nil (j:Nat):qMd m n j [] []
 |cons {j:Nat} {row row':Vec} {rest rest':List Vec} (h:qDK m n j rest row row' n) (h2:qMd m n (j+1) rest rest'):qMd m n j (row::rest) (row'::rest')
theorem qDK.start{m:Int}{n i:Nat}{rest:List Vec}{row:Vec}(ht:∀t,n<=t->row t=0):qDK m n i rest row row (i+1):=
 ⟨fun _ _=>rfl,ht,qAa.zero.congr (fun t=>by omega),fun t _ h1 h2=>by omega⟩
theorem qDK.step{m q:Int}{n i k:Nat}{rest:List Vec}{row row1 row2:Vec}(h:qDK m n i rest row row1 k)(hik:i<k)(hkn:k<n)(hT:qH0 m n (i+1) rest)(hl:k-(i+1)<rest.length)
 (hz:∀t,t<k->rest[k-(i+1)] t=0)(hd:0<rest[k-(i+1)] k)(hrt:∀t,n<=t->rest[k-(i+1)] t=0)
 (hq:q=row1 k/rest[k-(i+1)] k)(h1:∀t,t<k->row2 t=row1 t)(h2:row2 k=row1 k-q*rest[k-(i+1)] k)(h3:∀t,k<t->t<n->m∣(row1 t-q*rest[k-(i+1)] t)-row2 t)(h4:∀t,n<=t->row2 t=0):
 qDK m n i rest row row2 (k+1):=by
 have hm:=Int.emod_add_mul_ediv (row1 k) (rest[k-(i+1)] k);have e2:row2 k=row1 k%rest[k-(i+1)] k:=by
  rw[h2,hq];have:row1 k/rest[k-(i+1)] k*rest[k-(i+1)] k=rest[k-(i+1)] k*(row1 k/rest[k-(i+1)] k):=Int.mul_comm _ _;omega
 refine⟨fun t ht=>by rw[h1 t (by omega),h.at_ t ht],h4,?_,fun t hl' hit htk=> ?_⟩
 ·have hw:qAa rest (fun t=>(row1 t-q*rest[k-(i+1)] t)-row2 t):=by
   refine qCd n (k+1) _ (fun t a b=>hT.unit t (by omega) b) (fun t ht=> ?_) (fun t ht=> ?_) (fun t=> ?_)
   ·show row1 t-q*rest[k-(i+1)] t-row2 t=0
    rcases Nat.lt_or_ge t k with h5|h5
    ·rw[h1 t h5,hz t h5];simp
    ·obtain rfl:t=k:=by omega
     rw[h2];omega
   ·show row1 t-q*rest[k-(i+1)] t-row2 t=0
    rw[h4 t ht,hrt t ht,h.top t ht];simp
   ·show m∣row1 t-q*rest[k-(i+1)] t-row2 t
    rcases Nat.lt_or_ge t (k+1)with h5|h5
    ·refine⟨0,?_⟩
     rcases Nat.lt_or_ge t k with h6|h6
     ·rw[h1 t h6,hz t h6];simp
     ·obtain rfl:t=k:=by omega
      rw[h2];omega
    ·rcases Nat.lt_or_ge t n with h6|h6
     ·exact h3 t (by omega) h6
     ·exact⟨0,by rw[h4 t h6,hrt t h6,h.top t h6];simp⟩
  exact((h.diff.add ((qAa.mem (List.getElem_mem hl)).smul q)).add hw).congr (fun t=>by
   show row t-row1 t+q*rest[k-(i+1)] t+(row1 t-q*rest[k-(i+1)] t-row2 t)=row t-row2 t
   omega)
 ·rcases Nat.lt_or_ge t k with h5|h5
  ·rw[h1 t h5]
   exact h.red t hl' hit h5
  ·obtain rfl:t=k:=by omega
   rw[e2];exact⟨Int.emod_nonneg _ (by omega),Int.emod_lt_of_pos _ hd⟩
theorem qH0.at_{m:Int}{n:Nat}:∀{j:Nat} {L:List Vec},qH0 m n j L->∀t (h:t<L.length),(∀k,k<j+t->L[t] k=0)/\0<L[t] (j+t)/\(∀k,n<=k->L[t] k=0)
 |j,r::rs,⟨_,h2,h3,h4,_,_⟩,0,h=>⟨by simpa using h2,by simpa using h3,by simpa using h4⟩
 |j,r::rs,⟨_,_,_,_,_,h6⟩,t+1,h=>by
  have:=h6.at_ t (by simpa using h);rw[show j+1+t=j+(t+1) by omega]at this;simpa using this
theorem qMd.spec{m:Int}{n:Nat}{j:Nat}{L L':List Vec}(h:qMd m n j L L'):qH0 m n j L->
 L'.length=L.length/\(∀r∈L',qAa L r)/\(∀r∈L,qAa L' r)/\(∀i (h:i<L.length) (h':i<L'.length),∀t,t<=j+i->L'[i] t=L[i] t)/\(∀s i (hs:s<L'.length) (hi:i<L.length),s<i->0<=L'[s] (j+i)/\L'[s] (j+i)<L[i] (j+i)):=by
 induction h with
 |nil j=>intro _;simp
 | @cons j row row' rest rest' h1 h2 ih=>
  intro ht;obtain⟨t1,t2,t3,t4,t5,t6⟩:=ht;obtain⟨i1,i2,i3,i4,i5⟩:=ih t6;refine⟨by simp[i1],fun r hr=> ?_,fun r hr=> ?_,fun i hi hi' t htj=> ?_,fun s i hs hi hsi=> ?_⟩
  ·rcases List.mem_cons.1 hr with rfl|hr
   ·exact((qAa.mem (by simp:row∈row::rest)).sub (qBy h1.diff)).congr (fun t=>by show row t-(row t-r t)=r t;omega)
   ·exact qBy (i2 r hr)
  ·rcases List.mem_cons.1 hr with rfl|hr
   ·exact((qAa.mem (by simp:row'∈row'::rest')).add (qBy (h1.diff.trans i3))).congr (fun t=>by show row' t+(r t-row' t)=r t;omega)
   ·exact qBy (i3 r hr)
  ·cases i with
   |zero=>exact h1.at_ t (by simpa using htj)
   |succ i=>exact i4 i (by simpa using hi) (by simpa using hi') t (by omega)
  ·cases i with
   |zero=>omega
   |succ i=>
    have hi2:i<rest.length:=by simpa using hi
    have hlen:=t6.len;cases s with
    |zero=>
     have e:j+(i+1)-(j+1)=i:=by omega
     have:=h1.red (j+(i+1)) (by omega) (by omega) (by omega);have key:∀u (hu:u<rest.length),u=i->rest[u]=rest[i]:=fun u hu h=>by subst h;rfl
     rw[key _ _ e]at this;simpa using this
    |succ s=>
     have:=i5 s i (by simpa using hs) hi2 (by omega);rw[show j+1+i=j+(i+1) by omega]at this;simpa using this
structure Bez(x y a b now next:Int):Prop where
 a0:0<a
 b0:0<=b
 x0:0<=x
 ax:a<=x+y
 by_:b<=y
 ca:∃k,a=now*x+k*y
 cb:∃k,b=next*x+k*y
 sg:∃s N M:Int,(s=1\/s= -1)/\0<=N/\0<=M/\now=s*N/\next= -(s*M)/\N*b+M*a=y/\N<=y
 dv:∀g:Int,g∣a->g∣b->g∣x/\g∣y
theorem Bez.start{x y:Int}(hx:0<x)(hy:0<y):Bez x y x y 1 0:=
 ⟨hx,by omega,by omega,by omega,by omega,⟨0,by omega⟩,⟨1,by omega⟩,⟨1,1,0,.inl rfl,by omega,by omega,by omega,by omega,by omega,by omega⟩,fun g h1 h2=>⟨h1,h2⟩⟩
theorem Bez.step{x y a b now next:Int}(h:Bez x y a b now next)(hb:b≠0):Bez x y b (a%b) next (now-a/b*next):=by
 obtain⟨a0,b0,x0,ax,by_,⟨k1,ca⟩,⟨k2,cb⟩,⟨s,N,M,hs,hN,hM,e1,e2,e3,e4⟩,dv⟩:=h;have hm:=Int.emod_add_mul_ediv a b;have hq:0<=a/b:=Int.ediv_nonneg (by omega) b0;have hr:=Int.emod_nonneg a hb;have hr2:=Int.emod_lt_of_pos a (show 0<b by omega);generalize hqe:a/b=q at *;generalize hre:a%b=r at *;refine⟨by omega,hr,x0,by omega,by omega,⟨k2,cb⟩,⟨k1-q*k2,by grind⟩,⟨-s,M,N+q*M,by omega,hM,?_,by rw[e2];grind,by rw[e1,e2];grind,by grind,?_⟩,fun g h1 h2=>dv g ?_ h1⟩
 ·have:=Int.mul_nonneg hq hM;omega
 ·have h5:M<=M*a:=by
   have:=Int.mul_le_mul_of_nonneg_left (show 1<=a by omega) hM;omega
  have:=Int.mul_nonneg hN b0;omega
 ·rw[<-hm]
  exact Int.dvd_add h2 (Int.dvd_trans h1 (Int.dvd_mul_right _ _))
structure qJp(x y g u v:Int):Prop where
 g0:0<g
 gx:g∣x
 gy:g∣y
 eq:u*x+v*y=g
 ub:u.natAbs<=y.natAbs
 vb:v.natAbs<=x.natAbs+1
theorem Bez.nextB{x y a b now next:Int}(h:Bez x y a b now next)(hy:0<y):next.natAbs<=y.natAbs:=by
 obtain⟨a0,b0,x0,ax,by_,⟨k1,ca⟩,⟨k2,cb⟩,⟨s,N,M,hs,hN,hM,e1,e2,e3,e4⟩,dv⟩:=h;have h5:M<=M*a:=by
  have:=Int.mul_le_mul_of_nonneg_left (show 1<=a by omega) hM;omega
 have:=Int.mul_nonneg hN b0;rcases hs with rfl|rfl<;>omega
theorem Bez.nowB{x y a b now next:Int}(h:Bez x y a b now next)(hy:0<y):now.natAbs<=y.natAbs:=by
 obtain⟨a0,b0,x0,ax,by_,⟨k1,ca⟩,⟨k2,cb⟩,⟨s,N,M,hs,hN,hM,e1,e2,e3,e4⟩,dv⟩:=h;rcases hs with rfl|rfl<;>omega
theorem Bez.done{x y a now next:Int}(h:Bez x y a 0 now next)(hx:0<x)(hy:0<y):qJp x y a now ((a-now*x)/y):=by
 have hb:=h.nowB hy;obtain⟨a0,b0,x0,ax,by_,⟨k1,ca⟩,⟨k2,cb⟩, -,dv⟩:=h;obtain⟨d1,d2⟩:=dv a (Int.dvd_refl a) (Int.dvd_zero a);have hv:(a-now*x)/y=k1:=by
  rw[show a-now*x=k1*y by omega,Int.mul_ediv_cancel _ (by omega)]
 have hay:a<=y:=Int.le_of_dvd hy d2;refine⟨a0,d1,d2,by rw[hv];omega,hb,?_⟩;rw[hv];have h1:k1*y=a-now*x:=by omega
 have h2:k1.natAbs*y.natAbs<=(x.natAbs+1)*y.natAbs:=by
  rw[<-Int.natAbs_mul,h1];have h3:(now*x).natAbs<=y.natAbs*x.natAbs:=by rw[Int.natAbs_mul];exact Nat.mul_le_mul_right _ hb
  rw[Nat.add_mul,Nat.one_mul,Nat.mul_comm x.natAbs];generalize now*x=P at *;generalize y.natAbs*x.natAbs=Q at *;omega
 exact Nat.le_of_mul_le_mul_right h2 (by omega)
def vec(l:List Int):Vec:=fun j=>l[j]?.getD 0
theorem qAp{l:List Int}{j:Nat}(h:j<l.length):vec l j=l[j]:=by simp[vec,h]
theorem qAs{l:List Int}{j:Nat}(h:l.length<=j):vec l j=0:=by simp[vec,h]
theorem qCt{l:List Int}{j:Nat}(h:j<l.length)(z:Int)(k:Nat):vec (l.set j z) k=if k=j then z else vec l k:=by
 unfold vec;by_cases e:k=j
 ·subst e;simp[h]
 ·rw[List.getElem?_set_ne (Ne.symm e),if_neg e]
theorem qPV{l l':List Int}(h:l.length=l'.length)(he:∀j,vec l j=vec l' j):l=l':=by
 refine List.ext_getElem h (fun j h1 h2=> ?_);have:=he j
 rwa [qAp h1,qAp h2]at this
def qGN(m:Int)(n:Nat)(L:List Vec)(a:Vec)(j:Nat)(L2:List Vec)(a2:Vec):Prop:=
 ∀rest,Ins m n j (L.drop j) a2 rest->Ins m n 0 L a (L2.take j++rest)
theorem qGN.start(m:Int)(n:Nat)(L L2:List Vec)(a:Vec):qGN m n L a 0 L2 a:=fun rest h=>by simpa using h
theorem qGN.step{m:Int}{n j:Nat}{L L2:List Vec}{a a2 a3 row':Vec}(h:qGN m n L a j L2 a2)(hj:j<L.length)(hj2:j<L2.length)(hs:qBD m n j L[j] a2 row' a3):qGN m n L a (j+1) (L2.set j row') a3:=by
 intro rest hr;have:=h (row'::rest) (by rw[List.drop_eq_getElem_cons hj];exact .cons hs hr);rw[List.take_succ_eq_append_getElem (by simpa using hj2),List.getElem_set_self,List.take_set_of_le (Nat.le_refl _)];simpa using this
theorem qGN.done{m:Int}{n:Nat}{L L2:List Vec}{a a2:Vec}(h:qGN m n L a L.length L2 a2)(hl:L2.length=L.length):Ins m n 0 L a L2:=by
 have:=h [] (by rw[List.drop_eq_nil_of_le (Nat.le_refl _)];exact .nil _ _)
 rwa [List.append_nil,List.take_of_length_le (by omega)]at this
open Go.RowKit
theorem qRR(w:World)(t:TypeId)(x1 x2 y1 y2 z1 z2:Value)(n:Nat)(hn:w.heap.size=n):∃W,((((w.alloc (.cells #[x1,x2] t)).alloc (.cells #[y1,y2] t)).alloc (.cells #[z1,z2] t)).alloc (.cells #[z1,z2] t)).alloc (.cells #[z1,z2] t)=W/\
 Two W n t x1 x2/\Two W (n+1) t y1 y2/\Two W (n+1+1) t z1 z2/\Two W (n+1+1+1) t z1 z2/\Two W (n+1+1+1+1) t z1 z2/\Below w.heap.size w W/\W.heap.size=n+1+1+1+1+1:=by
 subst hn;obtain⟨W,hW,t1,t2,t3,hB,hs⟩:=qDN w t x1 x2 y1 y2 z1 z2 _ rfl;rw[hW];refine⟨_,rfl,(t1.alloc _).alloc _,(t2.alloc _).alloc _,(t3.alloc _).alloc _,?_,?_,(hB.alloc (by omega) _).alloc (by simp;omega) _,by simp[hs]⟩
 ·have:=(Two.new W t z1 z2).alloc (.cells #[z1,z2] t)
  rwa [hs]at this
 ·have:=Two.new (W.alloc (.cells #[z1,z2] t)) t z1 z2
  rwa [World.size_alloc,hs]at this
theorem qMo{W:World}{s a n c s' a' n' c'}{x y:Int}(N:Nat)(hN:W.heap.size=N)(h1:qAr W (.agg #[.bool s,.slice a n c]) x)(h2:qAr W (.agg #[.bool s',.slice a' n' c']) y):
 Bx ((W.alloc (.cells #[.bool s,.slice a n c] 73)).alloc (.cells #[.bool s',.slice a' n' c'] 73)).drew N x/\Bx ((W.alloc (.cells #[.bool s,.slice a n c] 73)).alloc (.cells #[.bool s',.slice a' n' c'] 73)).drew (N+1) y/\
 Below W.heap.size W ((W.alloc (.cells #[.bool s,.slice a n c] 73)).alloc (.cells #[.bool s',.slice a' n' c'] 73)).drew:=by
 subst hN;have h3:=Bx.new (h2.blw ((Below.refl _ W).alloc (Nat.le_refl _) (.cells #[.bool s,.slice a n c] 73)));rw[World.size_alloc]at h3;exact⟨((Bx.new h1).blw aR).blw (Below.refl _ _).drew,h3.blw (Below.refl _ _).drew,(aR.alloc (by simp) _).drew⟩
theorem qL3(vx vy:Value)(x y:Int)(w:World)(hx:qAr w vx x)(hy:qAr w vy y)(h0x:0<x)(h0y:0<y)(hlx:Sz 7000 x)(hly:Sz 7000 y):
 Calls Tryz.prog 204 #[vx,vy] w fun e w'=>∃g u v vg vu vv,e=.returned (.tuple #[vg,vu,vv])/\qAr w' vg g/\qAr w' vu u/\qAr w' vv v/\qJp x y g u v/\Below w.heap.size w w':=by
 obtain⟨sx,ax,nx,cx,rfl⟩:=hx.form4;obtain⟨sy,ay,ny,cy,rfl⟩:=hy.form4;obtain⟨n,hn⟩:=eX w.heap.size;have Hn:=hZ hn;obtain⟨w0,hW,t1,t2,t3,t4,t5,hBW,hsW⟩:=qRR w 73 (.bool sx) (.slice ax nx cx) (.bool sy) (.slice ay ny cy) (.bool false) (.slice none 0 0) n hn;have Fx:Hid (Bx w0 n x):=hZ ⟨sx,ax,nx,cx,t1,hx.below hBW⟩;have Fy:Hid (Bx w0 (n+1) y):=hZ ⟨sy,ay,ny,cy,t2,hy.below hBW⟩;have T4:=hZ t3;have T5:=hZ t4;have T6:=hZ t5;have HB:=hZ hBW;have Hsz:=hZ hsW;have Hx:=hZ (hx.below hBW);have Hy:=hZ (hy.below hBW);have HT1:=hZ (qMo _ hsW Hx.o Hy.o);have HT2:=hZ (qMo _ hsW Hy.o Hx.o);have d0:=t1.cell0;have d1:=t1.cell1;have d2:=t2.cell0;have d3:=t2.cell1;clear hx hy t1 t2 t3 t4 t5 hBW Hx Hy
 go_enter Tryz.func204,Tryz.ntmps204
 go_wp2_with fail
 clear hW;refine qEw (fun t ds a w'=>∃ba bb,a=⟨(((t.setIfInBounds 7 (.pointer (some ⟨ba,0,none⟩))).setIfInBounds 8 (.pointer (some ⟨bb,0,none⟩))).setIfInBounds 14 (.agg #[.bool sx,.slice ax nx cx])).setIfInBounds 15 (.agg #[.bool sy,.slice ay ny cy]),ds⟩/\Hid (Bx w' ba x)/\Hid (Bx w' bb y)/\Hid (Below w0.heap.size w0 w')/\Hid (ba≠bb/\w0.heap.size<=ba/\w0.heap.size<=bb)) ?_ ?_
 ·go_region
  all_goals
   refine qA0 ?_
   first
    |exact⟨_,_,rfl,hZ HT1.o.1,hZ HT1.o.2.1,hZ HT1.o.2.2,hZ (by have:=Hsz.o;omega)⟩
    |exact⟨_,_,rfl,hZ HT2.o.2.1,hZ HT2.o.1,hZ HT2.o.2.2,hZ (by have:=Hsz.o;omega)⟩
 ·skip
  clear d0 d1 d2 d3 HT1 HT2;rintro a w1 ⟨ba,bb,rfl,Fa,Fb,HB1,Hne⟩;simp only[sX1,sX2,sX3];have hB:=HB1.o;clear HB1;replace Fx:=Fx.b hB;replace Fy:=Fy.b hB;replace T4:=T4.b hB;replace T5:=T5.b hB;replace T6:=T6.b hB;replace HB:=bT HB hB;clear hB;have Hge:Hid (w.heap.size<=ba/\w.heap.size<=bb):=hZ (by have:=Hne.o;have:=Hsz.o;omega)
  go_wp2_with fail
  refine(qIR (w:=w1) 1 (by omega) (by omega)).mono ?_;rintro e w2 ⟨s_p,a_p,n_p,c_p,rfl,h_p,hB⟩;have Vp:=hZ h_p;replace Fx:=Fx.b hB;replace Fy:=Fy.b hB;replace T4:=T4.b hB;replace T5:=T5.b hB;replace T6:=T6.b hB;replace Fa:=Fa.b hB;replace Fb:=Fb.b hB;replace HB:=bT HB hB;clear hB;clear h_p
  go_wp2_with fail
  refine(qIR (w:=w2) 0 (by omega) (by omega)).mono ?_;rintro e w3 ⟨s_q,a_q,n_q,c_q,rfl,h_q,hB⟩;have Vq:=hZ h_q;replace Fx:=Fx.b hB;replace Fy:=Fy.b hB;replace T4:=T4.b hB;replace T5:=T5.b hB;replace T6:=T6.b hB;replace Fa:=Fa.b hB;replace Fb:=Fb.b hB;replace Vp:=Vp.b hB;replace HB:=bT HB hB;clear hB;clear h_q;have Hlt:Hid (ba<w3.heap.size/\bb<w3.heap.size/\w.heap.size<=w3.heap.size):=hZ ⟨Fa.o.lt,Fb.o.lt,HB.o.size⟩;obtain⟨w4,hw⟩:=eX (((w3.alloc (.cells #[.bool s_p,.slice a_p n_p c_p] 73)).alloc (.cells #[.bool s_q,.slice a_q n_q c_q] 73)));have hB:Below w3.heap.size w3 w4:=by rw[<-hw];exact aR.alloc (by simp) _
  obtain⟨bn,hb_bn⟩:=eX w3.heap.size;have h9:=Bx.blw (Bx.new (w:=w3) Vp.o) ((Below.refl _ _).alloc (Nat.le_refl _) (.cells #[.bool s_q,.slice a_q n_q c_q] 73));rw[hw,hb_bn]at h9;have Fn':=hZ h9;have hge_bn:w3.heap.size<=bn:=by omega
  clear h9;obtain⟨bm,hb_bm⟩:=eX (w3.heap.size+1);have h9:=Bx.new (w:=(w3.alloc (.cells #[.bool s_p,.slice a_p n_p c_p] 73))) (Vq.o.blw aR);rw[World.size_alloc]at h9;rw[hw,hb_bm]at h9;have Fm':=hZ h9;have hge_bm:w3.heap.size<=bm:=by omega
  clear h9;replace Fx:=Fx.b hB;replace Fy:=Fy.b hB;replace T4:=T4.b hB;replace T5:=T5.b hB;replace T6:=T6.b hB;replace Fa:=Fa.b hB;replace Fb:=Fb.b hB;replace Vp:=Vp.b hB;replace Vq:=Vq.b hB;replace HB:=bT HB hB;have Fn:=Fn';clear Fn';have Fm:=Fm';clear Fm';clear hB;have Hd:Hid (ba≠bb/\ba≠bn/\ba≠bm/\bb≠bn/\bb≠bm/\bn≠bm/\n+1+1+1+1<ba/\n+1+1+1+1<bb/\n+1+1+1+1<bn/\n+1+1+1+1<bm):=hZ (by have:=Hlt.o;have:=Hsz.o;have:=Hne.o;omega);clear hge_bn hge_bm Hlt
  go_wp2_with fail
  try rw[show bn+1=bm by rw[<-hb_bn];exact hb_bm]
  clear hw hb_bn hb_bm;clear Vp Vq
  go_loopg [13] y.toNat (fun g v wr=>∃(a now next:Int),Hid (Bez x y a (g:Int) now next)/\Hid (Bx wr ba a)/\Hid (Bx wr bb (g:Int))/\Hid (Bx wr bn now)/\Hid (Bx wr bm next)/\Hid (Bx wr n x)/\Hid (Bx wr (n+1) y)/\Hid (Two wr (n+1+1) 73 (.bool false) (.slice none 0 0))/\Hid (Two wr (n+1+1+1) 73 (.bool false) (.slice none 0 0))/\Hid (Two wr (n+1+1+1+1) 73 (.bool false) (.slice none 0 0))/\Hid (Below w.heap.size w wr))
  case atStart=>exact⟨x,1,0,hZ (by rw[Int.toNat_of_nonneg (by omega)];exact Bez.start h0x h0y),Fa,hZ (by rw[Int.toNat_of_nonneg (by omega)];exact Fb.o),Fn,Fm,Fx,Fy,T4,T5,T6,HB⟩
  case round=>
   clear Fa Fb Fn Fm Fx Fy T4 T5 T6 HB;obtain⟨a,now,next,HZ,Fa,Fb,Fn,Fm,Fx,Fy,T4,T5,T6,HB⟩:=hrel;obtain⟨w4,rfl⟩:=eY wr;obtain⟨s_b,a_b,n_b,c_b,t_b,h_b⟩:=Fb.o;have d0b:=t_b.cell0;have d1b:=t_b.cell1;have Vb:=hZ h_b;clear t_b h_b;have Sx:=hZ hlx;have Sy:=hZ hly;have Sb:Hid (Sz 7000 (gk:Int)):=hZ (hly.of_le (by have:=HZ.o.by_;have:=HZ.o.b0;omega));have Sa:Hid (Sz 7001 a):=hZ ((hlx.add hly).of_le (by have:=HZ.o.ax;have:=HZ.o.a0;omega));have Sm:Hid (Sz 7000 next):=hZ (hly.of_le (HZ.o.nextB h0y));have Sn:Hid (Sz 7000 now):=hZ (hly.of_le (HZ.o.nowB h0y))
   go_wp2_with fail
   by_cases hb0:gk=0
   ·skip
    refine(qAE (w:=w4) Vb.o Sb.o (by omega)).mono ?_;rintro e w5 ⟨he,hB⟩;rw[show qAV ((gk:Nat):Int) 0=0 by rw[hb0];exact qA7 0]at he;subst he;replace Fx:=Fx.b hB;replace Fy:=Fy.b hB;replace T4:=T4.b hB;replace T5:=T5.b hB;replace T6:=T6.b hB;replace Fa:=Fa.b hB;replace Fb:=Fb.b hB;replace Fn:=Fn.b hB;replace Fm:=Fm.b hB;replace Vb:=Vb.b hB;replace HB:=bT HB hB;clear hB;clear d0b d1b;clear Vb
    go_wp2_with fail
    have HD:Hid (qJp x y a now ((a-now*x)/y)):=hZ ((show Bez x y a 0 now next from by have:=HZ.o;rwa [hb0]at this).done h0x h0y);obtain⟨w6,hwd⟩:=eX w5.drew;have hB:=dB hwd;replace Fx:=Fx.b hB;replace Fy:=Fy.b hB;replace T4:=T4.b hB;replace T5:=T5.b hB;replace T6:=T6.b hB;replace Fa:=Fa.b hB;replace Fb:=Fb.b hB;replace Fn:=Fn.b hB;replace Fm:=Fm.b hB;replace HB:=bT HB hB;clear hB;have HBr:Hid (qAc (fun b=>b=n+1+1) w6 w6):=hZ (qAc.refl _ _);refine qAU [10,11] (fun w'=>qAc (fun b=>b=n+1+1) w6 w') (by kernel_rfl) (by rw[hwd];exact qAc.refl _ _) (fun hHeld=> ?_);rw[hwd]at hHeld ⊢;clear hwd;obtain⟨s_a,a_a,n_a,c_a,t_a,h_a⟩:=Fa.o;have d0a:=t_a.cell0;have d1a:=t_a.cell1;have Va:=hZ h_a;clear t_a h_a;obtain⟨s_n,a_n,n_n,c_n,t_n,h_n⟩:=Fn.o;have d0n:=t_n.cell0;have d1n:=t_n.cell1;have Vn:=hZ h_n;clear t_n h_n;obtain⟨s_x,a_x,n_x,c_x,t_x,h_x⟩:=Fx.o;have d0x:=t_x.cell0;have d1x:=t_x.cell1;have Vx:=hZ h_x;clear t_x h_x;obtain⟨s_y,a_y,n_y,c_y,t_y,h_y⟩:=Fy.o;have d0y:=t_y.cell0;have d1y:=t_y.cell1;have Vy:=hZ h_y;clear t_y h_y;refine tV 0 36 (cT (show ¬(ba=n+1+1) by have:=Hd.o;omega) d0a Fa.o.lt) (cT (show ¬(ba=n+1+1) by have:=Hd.o;omega) d1a Fa.o.lt) ?_;refine tV 1 37 (cT (show ¬(bn=n+1+1) by have:=Hd.o;omega) d0n Fn.o.lt) (cT (show ¬(bn=n+1+1) by have:=Hd.o;omega) d1n Fn.o.lt) ?_;refine tV 2 38 (cT (show ¬(ba=n+1+1) by have:=Hd.o;omega) d0a Fa.o.lt) (cT (show ¬(ba=n+1+1) by have:=Hd.o;omega) d1a Fa.o.lt) ?_;refine tV 3 39 (cT (show ¬(bn=n+1+1) by have:=Hd.o;omega) d0n Fn.o.lt) (cT (show ¬(bn=n+1+1) by have:=Hd.o;omega) d1n Fn.o.lt) ?_;refine tV 4 40 (cT (show ¬(n=n+1+1) by have:=Hd.o;omega) d0x Fx.o.lt) (cT (show ¬(n=n+1+1) by have:=Hd.o;omega) d1x Fx.o.lt) ?_;refine tV 7 43 (cT (show ¬(n+1=n+1+1) by have:=Hd.o;omega) d0y Fy.o.lt) (cT (show ¬(n+1=n+1+1) by have:=Hd.o;omega) d1y Fy.o.lt) ?_;clear d0a d1a d0n d1n d0x d1x d0y d1y;refine eU 5 fun K hK=> ?_;go_simp;refine(qBH (w:=w6) Vn.o Vx.o Sn.o Sx.o (by omega)).mono ?_;rintro e w7 ⟨s_t,a_t,n_t,c_t,rfl,h_t,hB⟩;have Vt:=hZ h_t;replace HBr:=oT HBr hB;replace Fx:=Fx.b hB;replace Fy:=Fy.b hB;replace T4:=T4.b hB;replace T5:=T5.b hB;replace T6:=T6.b hB;replace Fa:=Fa.b hB;replace Fb:=Fb.b hB;replace Fn:=Fn.b hB;replace Fm:=Fm.b hB;replace Va:=Va.b hB;replace Vn:=Vn.b hB;replace Vx:=Vx.b hB;replace Vy:=Vy.b hB;replace HB:=bT HB hB;clear hB;clear h_t;refine hK.out _ _ HBr.o (fun hHeld=> ?_);clear hK K
    try simp only[Act.put,sX1,sX2,sX3]
    refine eU 6 fun K hK=> ?_;go_simp;refine(qEG (w:=w7) (k:=14000) Va.o Vt.o (Sa.o.mono (by omega)) (Sn.o.mul Sx.o) (by omega)).mono ?_;rintro e w8 ⟨s_u,a_u,n_u,c_u,rfl,h_u,hB⟩;have Vu:=hZ h_u;replace HBr:=oT HBr hB;replace Fx:=Fx.b hB;replace Fy:=Fy.b hB;replace T4:=T4.b hB;replace T5:=T5.b hB;replace T6:=T6.b hB;replace Fa:=Fa.b hB;replace Fb:=Fb.b hB;replace Fn:=Fn.b hB;replace Fm:=Fm.b hB;replace Va:=Va.b hB;replace Vn:=Vn.b hB;replace Vx:=Vx.b hB;replace Vy:=Vy.b hB;replace Vt:=Vt.b hB;replace HB:=bT HB hB;clear hB;clear h_u;refine hK.out _ _ HBr.o (fun hHeld=> ?_);clear hK K
    try simp only[Act.put,sX1,sX2,sX3]
    refine eU 8 fun K hK=> ?_;go_simp;refine(qE3 (w:=w8) (k:=14001) (l:=7000) Vu.o Vy.o ((Sa.o.mono (by omega)).sub (Sn.o.mul Sx.o)) Sy.o (by omega) (by omega) (by omega)).mono ?_;rintro e w9 ⟨s_v,a_v,n_v,c_v,rfl,h_v,hB⟩;have Vv:=hZ h_v;replace HBr:=oT HBr hB;replace Fx:=Fx.b hB;replace Fy:=Fy.b hB;replace T4:=T4.b hB;replace T5:=T5.b hB;replace T6:=T6.b hB;replace Fa:=Fa.b hB;replace Fb:=Fb.b hB;replace Fn:=Fn.b hB;replace Fm:=Fm.b hB;replace Va:=Va.b hB;replace Vn:=Vn.b hB;replace Vx:=Vx.b hB;replace Vy:=Vy.b hB;replace Vt:=Vt.b hB;replace Vu:=Vu.b hB;replace HB:=bT HB hB;clear hB;clear h_v;refine hK.out _ _ HBr.o (fun hHeld=> ?_);clear hK K
    try simp only[Act.put,sX1,sX2,sX3]
    have e0:=T4.o.cell0;have e1:=T4.o.cell1;have e2:=T4.o.frozen 0;have e3:=T4.o.frozen 1;have hn9:qAi w9 (n+1+1):=T4.o.noInt (fun _ h=>by cases h) (fun _ h=>by cases h);obtain⟨w10,hw⟩:=eX ((w9.setCell ⟨n+1+1,0,none⟩ (.bool s_a)).setCell ⟨n+1+1,1,none⟩ (.slice a_a n_a c_a));have hw2:st2 w9 (n+1+1) (0) (1) s_a a_a n_a c_a=w10:=hw;replace Fx:=hZ (Fx.o.offe hw2 hn9 (by have:=Hd.o;omega));replace Fy:=hZ (Fy.o.offe hw2 hn9 (by have:=Hd.o;omega));replace T4:=hZ (Two.put1 (s:=s_a) (a:=a_a) (n:=n_a) (c:=c_a) T4.o);rw[hw2]at T4;replace T5:=hZ (T5.o.offe hw2 (by have:=Hd.o;omega));replace T6:=hZ (T6.o.offe hw2 (by have:=Hd.o;omega));replace Fa:=hZ (Fa.o.offe hw2 hn9 (by have:=Hd.o;omega));replace Fb:=hZ (Fb.o.offe hw2 hn9 (by have:=Hd.o;omega));replace Fn:=hZ (Fn.o.offe hw2 hn9 (by have:=Hd.o;omega));replace Fm:=hZ (Fm.o.offe hw2 hn9 (by have:=Hd.o;omega));replace Va:=hZ (Va.o.offe hw2 hn9);replace Vn:=hZ (Vn.o.offe hw2 hn9);replace Vx:=hZ (Vx.o.offe hw2 hn9);replace Vy:=hZ (Vy.o.offe hw2 hn9);replace Vt:=hZ (Vt.o.offe hw2 hn9);replace Vu:=hZ (Vu.o.offe hw2 hn9);replace Vv:=hZ (Vv.o.offe hw2 hn9);replace HB:=hZ (bO hw2 HB.o (by have:=Hn.o;omega));clear hw2 hn9;replace HBr:=hZ (HBr.o.off (g:=n+1+1) (o1:=0) (o2:=1) (s:=s_a) (a:=a_a) (n:=n_a) (c:=c_a) (show n+1+1=n+1+1 by simp));rw[show st2 w9 (n+1+1) 0 1 s_a a_a n_a c_a=w10 from hw]at HBr;refine eU 9 fun K hK=> ?_;go_simp
    try rw[hw]
    refine hK.out _ _ HBr.o (fun hHeld=> ?_);clear hK K
    try simp only[Act.put,sX1,sX2,sX3]
    clear hw e0 e1 e2 e3;have e0:=T5.o.cell0;have e1:=T5.o.cell1;have e2:=T5.o.frozen 0;have e3:=T5.o.frozen 1;have hn9:qAi w10 (n+1+1+1):=T5.o.noInt (fun _ h=>by cases h) (fun _ h=>by cases h);obtain⟨w11,hw⟩:=eX ((w10.setCell ⟨n+1+1+1,0,none⟩ (.bool s_n)).setCell ⟨n+1+1+1,1,none⟩ (.slice a_n n_n c_n));have hw2:st2 w10 (n+1+1+1) (0) (1) s_n a_n n_n c_n=w11:=hw;replace Fx:=hZ (Fx.o.offe hw2 hn9 (by have:=Hd.o;omega));replace Fy:=hZ (Fy.o.offe hw2 hn9 (by have:=Hd.o;omega));replace T4:=hZ (T4.o.offe hw2 (by have:=Hd.o;omega));replace T5:=hZ (Two.put1 (s:=s_n) (a:=a_n) (n:=n_n) (c:=c_n) T5.o);rw[hw2]at T5;replace T6:=hZ (T6.o.offe hw2 (by have:=Hd.o;omega));replace Fa:=hZ (Fa.o.offe hw2 hn9 (by have:=Hd.o;omega));replace Fb:=hZ (Fb.o.offe hw2 hn9 (by have:=Hd.o;omega));replace Fn:=hZ (Fn.o.offe hw2 hn9 (by have:=Hd.o;omega));replace Fm:=hZ (Fm.o.offe hw2 hn9 (by have:=Hd.o;omega));replace Va:=hZ (Va.o.offe hw2 hn9);replace Vn:=hZ (Vn.o.offe hw2 hn9);replace Vx:=hZ (Vx.o.offe hw2 hn9);replace Vy:=hZ (Vy.o.offe hw2 hn9);replace Vt:=hZ (Vt.o.offe hw2 hn9);replace Vu:=hZ (Vu.o.offe hw2 hn9);replace Vv:=hZ (Vv.o.offe hw2 hn9);replace HB:=hZ (bO hw2 HB.o (by have:=Hn.o;omega));clear hw2 hn9;refine lU 10 fun K hK=> ?_;go_simp
    try rw[hw]
    refine hK.out _ _ ?_;clear hK K
    try simp only[Act.put,sX1,sX2,sX3]
    clear hw e0 e1 e2 e3;have e0:=T6.o.cell0;have e1:=T6.o.cell1;have e2:=T6.o.frozen 0;have e3:=T6.o.frozen 1;have hn9:qAi w11 (n+1+1+1+1):=T6.o.noInt (fun _ h=>by cases h) (fun _ h=>by cases h);obtain⟨w12,hw⟩:=eX ((w11.setCell ⟨n+1+1+1+1,0,none⟩ (.bool s_v)).setCell ⟨n+1+1+1+1,1,none⟩ (.slice a_v n_v c_v));have hw2:st2 w11 (n+1+1+1+1) (0) (1) s_v a_v n_v c_v=w12:=hw;replace Fx:=hZ (Fx.o.offe hw2 hn9 (by have:=Hd.o;omega));replace Fy:=hZ (Fy.o.offe hw2 hn9 (by have:=Hd.o;omega));replace T4:=hZ (T4.o.offe hw2 (by have:=Hd.o;omega));replace T5:=hZ (T5.o.offe hw2 (by have:=Hd.o;omega));replace T6:=hZ (Two.put1 (s:=s_v) (a:=a_v) (n:=n_v) (c:=c_v) T6.o);rw[hw2]at T6;replace Fa:=hZ (Fa.o.offe hw2 hn9 (by have:=Hd.o;omega));replace Fb:=hZ (Fb.o.offe hw2 hn9 (by have:=Hd.o;omega));replace Fn:=hZ (Fn.o.offe hw2 hn9 (by have:=Hd.o;omega));replace Fm:=hZ (Fm.o.offe hw2 hn9 (by have:=Hd.o;omega));replace Va:=hZ (Va.o.offe hw2 hn9);replace Vn:=hZ (Vn.o.offe hw2 hn9);replace Vx:=hZ (Vx.o.offe hw2 hn9);replace Vy:=hZ (Vy.o.offe hw2 hn9);replace Vt:=hZ (Vt.o.offe hw2 hn9);replace Vu:=hZ (Vu.o.offe hw2 hn9);replace Vv:=hZ (Vv.o.offe hw2 hn9);replace HB:=hZ (bO hw2 HB.o (by have:=Hn.o;omega));clear hw2 hn9;refine lU 11 fun K hK=> ?_;go_simp
    try rw[hw]
    refine hK.out _ _ ?_;clear hK K
    try simp only[Act.put,sX1,sX2,sX3]
    clear hw e0 e1 e2 e3;refine dU ?_;clear hHeld;have g0:=T4.o.cell0;have g1:=T4.o.cell1;have g2:=T5.o.cell0;have g3:=T5.o.cell1;have g4:=T6.o.cell0;have g5:=T6.o.cell1
    go_wp2_with fail
    exact bodyPost_ret (v:=.tuple #[.agg #[.bool s_a,.slice a_a n_a c_a],.agg #[.bool s_n,.slice a_n n_n c_n],.agg #[.bool s_v,.slice a_v n_v c_v]]) (by simp[results,Tryz.results204,go_sem,g0,g1,g2,g3,g4,g5]) rfl ⟨_,_,_,_,_,_,rfl,Va.o,Vn.o,Vv.o,HD.o,HB.o⟩
   ·skip
    refine(qAE (w:=w4) Vb.o Sb.o (by omega)).mono ?_;rintro e w5 ⟨he,hB⟩;rw[show qAV ((gk:Nat):Int) 0=1 from qER (by omega)]at he;subst he;replace Fx:=Fx.b hB;replace Fy:=Fy.b hB;replace T4:=T4.b hB;replace T5:=T5.b hB;replace T6:=T6.b hB;replace Fa:=Fa.b hB;replace Fb:=Fb.b hB;replace Fn:=Fn.b hB;replace Fm:=Fm.b hB;replace Vb:=Vb.b hB;replace HB:=bT HB hB;clear hB;clear d0b d1b;clear Vb;obtain⟨s_a,a_a,n_a,c_a,t_a,h_a⟩:=Fa.o;have d0a:=t_a.cell0;have d1a:=t_a.cell1;have Va:=hZ h_a;clear t_a h_a;obtain⟨s_b,a_b,n_b,c_b,t_b,h_b⟩:=Fb.o;have d0b:=t_b.cell0;have d1b:=t_b.cell1;have Vb:=hZ h_b;clear t_b h_b
    go_wp2_with fail
    clear d0a d1a d0b d1b;have hb9:(gk:Int)≠0:=by omega
    refine(qRK (w:=w5) Va.o Vb.o Sa.o Sb.o hb9 (by omega) (by omega)).mono ?_;rintro e w6 ⟨s_q,a_q,n_q,c_q,s_r,a_r,n_r,c_r,rfl,h_q,h_r,hB⟩;have Vq:=hZ h_q;have Vr:=hZ h_r;replace Fx:=Fx.b hB;replace Fy:=Fy.b hB;replace T4:=T4.b hB;replace T5:=T5.b hB;replace T6:=T6.b hB;replace Fa:=Fa.b hB;replace Fb:=Fb.b hB;replace Fn:=Fn.b hB;replace Fm:=Fm.b hB;replace Va:=Va.b hB;replace Vb:=Vb.b hB;replace HB:=bT HB hB;clear hB;clear h_q h_r;clear Va Vb;have Hlt:Hid (ba<w6.heap.size/\bb<w6.heap.size/\bn<w6.heap.size/\bm<w6.heap.size):=hZ ⟨Fa.o.lt,Fb.o.lt,Fn.o.lt,Fm.o.lt⟩;obtain⟨w7,hw⟩:=eX (((w6.alloc (.cells #[.bool s_q,.slice a_q n_q c_q] 73)).alloc (.cells #[.bool s_r,.slice a_r n_r c_r] 73)));have hB:Below w6.heap.size w6 w7:=by rw[<-hw];exact aR.alloc (by simp) _
    obtain⟨bq,hb_bq⟩:=eX w6.heap.size;have h9:=Bx.blw (Bx.new (w:=w6) Vq.o) ((Below.refl _ _).alloc (Nat.le_refl _) (.cells #[.bool s_r,.slice a_r n_r c_r] 73));rw[hw,hb_bq]at h9;have Fq':=hZ h9;have hge_bq:w6.heap.size<=bq:=by omega
    clear h9;obtain⟨br,hb_br⟩:=eX (w6.heap.size+1);have h9:=Bx.new (w:=(w6.alloc (.cells #[.bool s_q,.slice a_q n_q c_q] 73))) (Vr.o.blw aR);rw[World.size_alloc]at h9;rw[hw,hb_br]at h9;have Fr':=hZ h9;have hge_br:w6.heap.size<=br:=by omega
    clear h9;replace Fx:=Fx.b hB;replace Fy:=Fy.b hB;replace T4:=T4.b hB;replace T5:=T5.b hB;replace T6:=T6.b hB;replace Fa:=Fa.b hB;replace Fb:=Fb.b hB;replace Fn:=Fn.b hB;replace Fm:=Fm.b hB;replace Vq:=Vq.b hB;replace Vr:=Vr.b hB;replace HB:=bT HB hB;have Fq:=Fq';clear Fq';have Fr:=Fr';clear Fr';clear hB;have Hd2:Hid (ba<bq/\bb<bq/\bn<bq/\bm<bq/\ba<br/\bb<br/\bn<br/\bm<br):=hZ (by have:=Hlt.o;omega);clear hge_bq hge_br Hlt
    go_wp2_with fail
    try rw[show bq+1=br by rw[<-hb_bq];exact hb_br]
    clear hw hb_bq hb_br;clear Vq Vr;obtain⟨w8,hwd⟩:=eX w7.drew;have hB:=dB hwd;replace Fx:=Fx.b hB;replace Fy:=Fy.b hB;replace T4:=T4.b hB;replace T5:=T5.b hB;replace T6:=T6.b hB;replace Fa:=Fa.b hB;replace Fb:=Fb.b hB;replace Fn:=Fn.b hB;replace Fm:=Fm.b hB;replace Fq:=Fq.b hB;replace Fr:=Fr.b hB;replace HB:=bT HB hB;clear hB;have HBr:Hid (qAc (fun b=>b=ba) w8 w8):=hZ (qAc.refl _ _);refine qAU [3] (fun w'=>qAc (fun b=>b=ba) w8 w') (by kernel_rfl) (by rw[hwd];exact qAc.refl _ _) (fun hHeld=> ?_);rw[hwd]at hHeld ⊢;clear hwd;obtain⟨s_b,a_b,n_b,c_b,t_b,h_b⟩:=Fb.o;have d0b:=t_b.cell0;have d1b:=t_b.cell1;have Vb:=hZ h_b;clear t_b h_b;obtain⟨s_r,a_r,n_r,c_r,t_r,h_r⟩:=Fr.o;have d0r:=t_r.cell0;have d1r:=t_r.cell1;have Vr:=hZ h_r;clear t_r h_r;refine tV 0 28 (cT (show ¬(bb=ba) by have:=Hd.o;have:=Hd2.o;omega) d0b Fb.o.lt) (cT (show ¬(bb=ba) by have:=Hd.o;have:=Hd2.o;omega) d1b Fb.o.lt) ?_;refine tV 1 29 (cT (show ¬(br=ba) by have:=Hd.o;have:=Hd2.o;omega) d0r Fr.o.lt) (cT (show ¬(br=ba) by have:=Hd.o;have:=Hd2.o;omega) d1r Fr.o.lt) ?_;clear d0b d1b d0r d1r;obtain⟨s_9,a_9,n_9,c_9,t_9,-⟩:=Fa.o;have e0:=t_9.cell0;have e1:=t_9.cell1;have e2:=t_9.frozen 0;have e3:=t_9.frozen 1;clear t_9;have hn9:qAi w8 (ba):=Fa.o.noInt;obtain⟨w9,hw⟩:=eX ((w8.setCell ⟨ba,0,none⟩ (.bool s_b)).setCell ⟨ba,1,none⟩ (.slice a_b n_b c_b));have hw2:st2 w8 (ba) (0) (1) s_b a_b n_b c_b=w9:=hw;replace Fx:=hZ (Fx.o.offe hw2 hn9 (by have:=Hd.o;have:=Hd2.o;omega));replace Fy:=hZ (Fy.o.offe hw2 hn9 (by have:=Hd.o;have:=Hd2.o;omega));replace T4:=hZ (T4.o.offe hw2 (by have:=Hd.o;have:=Hd2.o;omega));replace T5:=hZ (T5.o.offe hw2 (by have:=Hd.o;have:=Hd2.o;omega));replace T6:=hZ (T6.o.offe hw2 (by have:=Hd.o;have:=Hd2.o;omega));replace Fa:=hZ (Bx.put Fa.o Vb.o);rw[hw2]at Fa;replace Fb:=hZ (Fb.o.offe hw2 hn9 (by have:=Hd.o;have:=Hd2.o;omega));replace Fn:=hZ (Fn.o.offe hw2 hn9 (by have:=Hd.o;have:=Hd2.o;omega));replace Fm:=hZ (Fm.o.offe hw2 hn9 (by have:=Hd.o;have:=Hd2.o;omega));replace Fq:=hZ (Fq.o.offe hw2 hn9 (by have:=Hd.o;have:=Hd2.o;omega));replace Fr:=hZ (Fr.o.offe hw2 hn9 (by have:=Hd.o;have:=Hd2.o;omega));replace Vb:=hZ (Vb.o.offe hw2 hn9);replace Vr:=hZ (Vr.o.offe hw2 hn9);replace HB:=hZ (bO hw2 HB.o (by have:=Hd.o;have:=Hn.o;omega));clear hw2 hn9;replace HBr:=hZ (HBr.o.off (g:=ba) (o1:=0) (o2:=1) (s:=s_b) (a:=a_b) (n:=n_b) (c:=c_b) (show ba=ba by simp));rw[show st2 w8 (ba) 0 1 s_b a_b n_b c_b=w9 from hw]at HBr;refine eU 2 fun K hK=> ?_;go_simp
    try rw[hw]
    refine hK.out _ _ HBr.o (fun hHeld=> ?_);clear hK K
    try simp only[Act.put,sX1,sX2,sX3]
    clear hw e0 e1 e2 e3;obtain⟨s_9,a_9,n_9,c_9,t_9,-⟩:=Fb.o;have e0:=t_9.cell0;have e1:=t_9.cell1;have e2:=t_9.frozen 0;have e3:=t_9.frozen 1;clear t_9;have hn9:qAi w9 (bb):=Fb.o.noInt;obtain⟨w10,hw⟩:=eX ((w9.setCell ⟨bb,0,none⟩ (.bool s_r)).setCell ⟨bb,1,none⟩ (.slice a_r n_r c_r));have hw2:st2 w9 (bb) (0) (1) s_r a_r n_r c_r=w10:=hw;replace Fx:=hZ (Fx.o.offe hw2 hn9 (by have:=Hd.o;have:=Hd2.o;omega));replace Fy:=hZ (Fy.o.offe hw2 hn9 (by have:=Hd.o;have:=Hd2.o;omega));replace T4:=hZ (T4.o.offe hw2 (by have:=Hd.o;have:=Hd2.o;omega));replace T5:=hZ (T5.o.offe hw2 (by have:=Hd.o;have:=Hd2.o;omega));replace T6:=hZ (T6.o.offe hw2 (by have:=Hd.o;have:=Hd2.o;omega));replace Fa:=hZ (Fa.o.offe hw2 hn9 (by have:=Hd.o;have:=Hd2.o;omega));replace Fb:=hZ (Bx.put Fb.o Vr.o);rw[hw2]at Fb;replace Fn:=hZ (Fn.o.offe hw2 hn9 (by have:=Hd.o;have:=Hd2.o;omega));replace Fm:=hZ (Fm.o.offe hw2 hn9 (by have:=Hd.o;have:=Hd2.o;omega));replace Fq:=hZ (Fq.o.offe hw2 hn9 (by have:=Hd.o;have:=Hd2.o;omega));replace Fr:=hZ (Fr.o.offe hw2 hn9 (by have:=Hd.o;have:=Hd2.o;omega));replace Vb:=hZ (Vb.o.offe hw2 hn9);replace Vr:=hZ (Vr.o.offe hw2 hn9);replace HB:=hZ (bO hw2 HB.o (by have:=Hd.o;have:=Hn.o;omega));clear hw2 hn9;refine lU 3 fun K hK=> ?_;go_simp
    try rw[hw]
    refine hK.out _ _ ?_;clear hK K
    try simp only[Act.put,sX1,sX2,sX3]
    clear hw e0 e1 e2 e3;refine dU ?_;clear hHeld;clear Vb Vr
    go_wp2_with fail
    obtain⟨w11,hwd⟩:=eX w10.drew;have hB:=dB hwd;replace Fx:=Fx.b hB;replace Fy:=Fy.b hB;replace T4:=T4.b hB;replace T5:=T5.b hB;replace T6:=T6.b hB;replace Fa:=Fa.b hB;replace Fb:=Fb.b hB;replace Fn:=Fn.b hB;replace Fm:=Fm.b hB;replace Fq:=Fq.b hB;replace Fr:=Fr.b hB;replace HB:=bT HB hB;clear hB;have HBr:Hid (qAc (fun b=>False) w11 w11):=hZ (qAc.refl _ _);refine qAU [6,7] (fun w'=>qAc (fun b=>False) w11 w') (by kernel_rfl) (by rw[hwd];exact qAc.refl _ _) (fun hHeld=> ?_);rw[hwd]at hHeld ⊢;clear hwd;obtain⟨s_m,a_m,n_m,c_m,t_m,h_m⟩:=Fm.o;have d0m:=t_m.cell0;have d1m:=t_m.cell1;have Vm:=hZ h_m;clear t_m h_m;obtain⟨s_o,a_o,n_o,c_o,t_o,h_o⟩:=Fn.o;have d0o:=t_o.cell0;have d1o:=t_o.cell1;have Vo:=hZ h_o;clear t_o h_o;obtain⟨s_q,a_q,n_q,c_q,t_q,h_q⟩:=Fq.o;have d0q:=t_q.cell0;have d1q:=t_q.cell1;have Vq:=hZ h_q;clear t_q h_q;refine tV 0 30 (cF d0m Fm.o.lt) (cF d1m Fm.o.lt) ?_;refine tV 1 31 (cF d0o Fn.o.lt) (cF d1o Fn.o.lt) ?_;refine tV 2 32 (cF d0q Fq.o.lt) (cF d1q Fq.o.lt) ?_;refine tV 3 33 (cF d0m Fm.o.lt) (cF d1m Fm.o.lt) ?_;clear d0m d1m d0o d1o d0q d1q;have Sq:Hid (Sz 7002 (a/(gk:Int))):=hZ (Sa.o.div hb9);refine eU 4 fun K hK=> ?_;go_simp;refine(qBH (w:=w11) Vq.o Vm.o Sq.o Sm.o (by omega)).mono ?_;rintro e w12 ⟨s_t,a_t,n_t,c_t,rfl,h_t,hB⟩;have Vt:=hZ h_t;replace HBr:=oT HBr hB;replace Fx:=Fx.b hB;replace Fy:=Fy.b hB;replace T4:=T4.b hB;replace T5:=T5.b hB;replace T6:=T6.b hB;replace Fa:=Fa.b hB;replace Fb:=Fb.b hB;replace Fn:=Fn.b hB;replace Fm:=Fm.b hB;replace Fq:=Fq.b hB;replace Fr:=Fr.b hB;replace Vm:=Vm.b hB;replace Vo:=Vo.b hB;replace Vq:=Vq.b hB;replace HB:=bT HB hB;clear hB;clear h_t;refine hK.out _ _ HBr.o (fun hHeld=> ?_);clear hK K
    try simp only[Act.put,sX1,sX2,sX3]
    refine eU 5 fun K hK=> ?_;go_simp;refine(qEG (w:=w12) (k:=14002) Vo.o Vt.o (Sn.o.mono (by omega)) (Sq.o.mul Sm.o) (by omega)).mono ?_;rintro e w13 ⟨s_u,a_u,n_u,c_u,rfl,h_u,hB⟩;have Vu:=hZ h_u;replace HBr:=oT HBr hB;replace Fx:=Fx.b hB;replace Fy:=Fy.b hB;replace T4:=T4.b hB;replace T5:=T5.b hB;replace T6:=T6.b hB;replace Fa:=Fa.b hB;replace Fb:=Fb.b hB;replace Fn:=Fn.b hB;replace Fm:=Fm.b hB;replace Fq:=Fq.b hB;replace Fr:=Fr.b hB;replace Vm:=Vm.b hB;replace Vo:=Vo.b hB;replace Vq:=Vq.b hB;replace Vt:=Vt.b hB;replace HB:=bT HB hB;clear hB;clear h_u;refine hK.out _ _ HBr.o (fun hHeld=> ?_);clear hK K
    try simp only[Act.put,sX1,sX2,sX3]
    obtain⟨s_9,a_9,n_9,c_9,t_9,-⟩:=Fn.o;have e0:=t_9.cell0;have e1:=t_9.cell1;have e2:=t_9.frozen 0;have e3:=t_9.frozen 1;clear t_9;have hn9:qAi w13 (bn):=Fn.o.noInt;obtain⟨w14,hw⟩:=eX ((w13.setCell ⟨bn,0,none⟩ (.bool s_m)).setCell ⟨bn,1,none⟩ (.slice a_m n_m c_m));have hw2:st2 w13 (bn) (0) (1) s_m a_m n_m c_m=w14:=hw;replace Fx:=hZ (Fx.o.offe hw2 hn9 (by have:=Hd.o;have:=Hd2.o;omega));replace Fy:=hZ (Fy.o.offe hw2 hn9 (by have:=Hd.o;have:=Hd2.o;omega));replace T4:=hZ (T4.o.offe hw2 (by have:=Hd.o;have:=Hd2.o;omega));replace T5:=hZ (T5.o.offe hw2 (by have:=Hd.o;have:=Hd2.o;omega));replace T6:=hZ (T6.o.offe hw2 (by have:=Hd.o;have:=Hd2.o;omega));replace Fa:=hZ (Fa.o.offe hw2 hn9 (by have:=Hd.o;have:=Hd2.o;omega));replace Fb:=hZ (Fb.o.offe hw2 hn9 (by have:=Hd.o;have:=Hd2.o;omega));replace Fn:=hZ (Bx.put Fn.o Vm.o);rw[hw2]at Fn;replace Fm:=hZ (Fm.o.offe hw2 hn9 (by have:=Hd.o;have:=Hd2.o;omega));replace Fq:=hZ (Fq.o.offe hw2 hn9 (by have:=Hd.o;have:=Hd2.o;omega));replace Fr:=hZ (Fr.o.offe hw2 hn9 (by have:=Hd.o;have:=Hd2.o;omega));replace Vm:=hZ (Vm.o.offe hw2 hn9);replace Vo:=hZ (Vo.o.offe hw2 hn9);replace Vq:=hZ (Vq.o.offe hw2 hn9);replace Vt:=hZ (Vt.o.offe hw2 hn9);replace Vu:=hZ (Vu.o.offe hw2 hn9);replace HB:=hZ (bO hw2 HB.o (by have:=Hd.o;have:=Hn.o;omega));clear hw2 hn9;refine lU 6 fun K hK=> ?_;go_simp
    try rw[hw]
    refine hK.out _ _ ?_;clear hK K
    try simp only[Act.put,sX1,sX2,sX3]
    clear hw e0 e1 e2 e3;obtain⟨s_9,a_9,n_9,c_9,t_9,-⟩:=Fm.o;have e0:=t_9.cell0;have e1:=t_9.cell1;have e2:=t_9.frozen 0;have e3:=t_9.frozen 1;clear t_9;have hn9:qAi w14 (bm):=Fm.o.noInt;obtain⟨w15,hw⟩:=eX ((w14.setCell ⟨bm,0,none⟩ (.bool s_u)).setCell ⟨bm,1,none⟩ (.slice a_u n_u c_u));have hw2:st2 w14 (bm) (0) (1) s_u a_u n_u c_u=w15:=hw;replace Fx:=hZ (Fx.o.offe hw2 hn9 (by have:=Hd.o;have:=Hd2.o;omega));replace Fy:=hZ (Fy.o.offe hw2 hn9 (by have:=Hd.o;have:=Hd2.o;omega));replace T4:=hZ (T4.o.offe hw2 (by have:=Hd.o;have:=Hd2.o;omega));replace T5:=hZ (T5.o.offe hw2 (by have:=Hd.o;have:=Hd2.o;omega));replace T6:=hZ (T6.o.offe hw2 (by have:=Hd.o;have:=Hd2.o;omega));replace Fa:=hZ (Fa.o.offe hw2 hn9 (by have:=Hd.o;have:=Hd2.o;omega));replace Fb:=hZ (Fb.o.offe hw2 hn9 (by have:=Hd.o;have:=Hd2.o;omega));replace Fn:=hZ (Fn.o.offe hw2 hn9 (by have:=Hd.o;have:=Hd2.o;omega));replace Fm:=hZ (Bx.put Fm.o Vu.o);rw[hw2]at Fm;replace Fq:=hZ (Fq.o.offe hw2 hn9 (by have:=Hd.o;have:=Hd2.o;omega));replace Fr:=hZ (Fr.o.offe hw2 hn9 (by have:=Hd.o;have:=Hd2.o;omega));replace Vm:=hZ (Vm.o.offe hw2 hn9);replace Vo:=hZ (Vo.o.offe hw2 hn9);replace Vq:=hZ (Vq.o.offe hw2 hn9);replace Vt:=hZ (Vt.o.offe hw2 hn9);replace Vu:=hZ (Vu.o.offe hw2 hn9);replace HB:=hZ (bO hw2 HB.o (by have:=Hd.o;have:=Hn.o;omega));clear hw2 hn9;refine lU 7 fun K hK=> ?_;go_simp
    try rw[hw]
    refine hK.out _ _ ?_;clear hK K
    try simp only[Act.put,sX1,sX2,sX3]
    clear hw e0 e1 e2 e3;refine dU ?_;clear hHeld
    go_wp2_with fail
    go_roundg (((a%(gk:Int)).toNat))
    case measure=>have h1:=Int.emod_lt_of_pos a (show(0:Int)<(gk:Int) by omega);have h2:=Int.emod_nonneg a hb9;omega
    case rel=>exact⟨(gk:Int),next,now-a/(gk:Int)*next,hZ (by rw[Int.toNat_of_nonneg (Int.emod_nonneg _ hb9)];exact HZ.o.step hb9),Fa,hZ (by rw[Int.toNat_of_nonneg (Int.emod_nonneg _ hb9)];exact Fb.o),Fn,Fm,Fx,Fy,T4,T5,T6,HB⟩
end Go.Proofs.YtkjhlkngihponaaGreatDoor
