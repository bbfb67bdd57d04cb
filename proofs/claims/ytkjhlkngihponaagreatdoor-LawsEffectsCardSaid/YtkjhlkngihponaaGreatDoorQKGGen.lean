/- The generator of catalogs: what it needs of the memory. -/
import Derived.Test.YtkjhlkngihponaaGreatDoorQKLTimes
import Derived.Test.YtkjhlkngihponaaGreatDoorQKGVal
import Derived.Test.YtkjhlkngihponaaGreatDoorQKStr
import Derived.Test.YtkjhlkngihponaaGreatDoorQKRefWalks
set_option linter.unusedVariables false
set_option linter.unusedSimpArgs false
set_option maxHeartbeats 8000000
set_option maxRecDepth 100000
namespace Go.Proofs.YtkjhlkngihponaaGreatDoor

def topE:Int:=466560000000
section
variable {m H K:List (List Int)}
theorem qMj{r:List Int}{x:Int}(h:x∈r):∃j,vec r j=x:=by
 obtain⟨j,hj,rfl⟩:=List.mem_iff_getElem.1 h;exact⟨j,qAp hj⟩
theorem qQT{n:Nat}(h:∀r∈H,r.length=n):∀r∈H,r.length=qBY H:=by
 intro r hr;unfold qBY;cases H with
 |nil=>cases hr
 |cons a H=>rw[h r hr];simpa using (h a (by simp)).symm
theorem qQU{n:Nat}(h:∀r∈H,r.length=n)(h0:0<H.length):qBY H=n:=by
 unfold qBY;cases H with
 |nil=>simp at h0
 |cons a H=>simpa using h a (by simp)
theorem qGT{v:List Int}(hc:∀r∈m,r.length=qBY m)(j:Nat):vec (qC7 v m) j=qBg (vec v) (m.map vec) 0 j:=by
 rcases Nat.lt_or_ge j (qBY m)with hj|hj
 ·rw[qAp (by rw[qEA];exact hj)]
  simp[qC7,qGv]
 ·rw[qAs (by rw[qEA];exact hj),qNp hc _ j hj]
theorem qRA{v:List Int}(hm:m.length<=64)(hl:K.length<=64)(hc:∀r∈m,r.length=qBY m)(h:∀r∈K,r.length=m.length)(hs:qBL m (K.map vec))(hv:v.length=m.length):InB K v ↔ ∀x∈qC7 v m,x=0:=by
 have e:qAa (K.map vec) (vec v) ↔ ∀x∈qC7 v m,x=0:=by
  rw[hs.span];constructor
  ·rintro⟨-,h2⟩ x hx
   obtain⟨j,rfl⟩:=qMj hx;rw[qGT hc,h2]
  ·intro h0
   refine⟨fun j hj=>qAs (by omega),fun j=> ?_⟩;rw[<-qGT hc];rcases Nat.lt_or_ge j (qC7 v m).length with hj|hj
   ·rw[qAp hj];exact h0 _ (List.getElem_mem _)
   ·exact qAs hj
 exact⟨fun h1=>e.1 h1.2.2.2,fun h1=>⟨hl,by omega,by rw[hv];exact qM3 h hs.nrm,e.2 h1⟩⟩
end
def qC0(n:Nat)(E:List (Nat->Int)):List (List Int):=(List.range n).map (fun i=>E.map (fun f=>f i))
def qBI(w:List Int)(f:Nat->Int):Nat->Int
 |0=>0
 |k+1=>qBI w f k+w.getD k 0*f k
theorem qAQ{n:Nat}{E:List (Nat->Int)}:(qC0 n E).length=n:=by simp[qC0]
theorem qN1{n:Nat}{E:List (Nat->Int)}(i:Nat)(h:i<n):(qC0 n E)[i]'(by rw[qAQ];exact h)=E.map (fun f=>f i):=by simp[qC0]
theorem qEo{n:Nat}{E:List (Nat->Int)}:∀r∈qC0 n E,r.length=E.length:=by
 intro r hr;obtain⟨i,_,rfl⟩:=List.mem_map.1 hr;simp
theorem qI5{n:Nat}{E:List (Nat->Int)}:∀r∈qC0 n E,r.length=qBY (qC0 n E):=qQT qEo
theorem qK8{n:Nat}{E:List (Nat->Int)}{X:Nat}(h:∀f∈E,∀i,i<n->(f i).natAbs<=X):∀r∈qC0 n E,∀x∈r,x.natAbs<=X:=by
 intro r hr x hx;obtain⟨i,hi,rfl⟩:=List.mem_map.1 hr;obtain⟨f,hf,rfl⟩:=List.mem_map.1 hx;exact h f hf i (List.mem_range.1 hi)
theorem qOl(w:List Int)(k:Nat):vec w k=w.getD k 0:=by
 rw[List.getD_eq_getElem?_getD];rfl
theorem qIT(w:List Int){n:Nat}{E:List (Nat->Int)}(k:Nat)(hk:k<E.length):∀i,i<=n->qGv w (qC0 n E) i k=qBI w E[k] i
 |0,_=>by rw[qF7];rfl
 |i+1,hi=>by
  rw[qF8 w (qC0 n E) i k (by rw[qAQ];omega),qIT w k hk i (by omega),qN1 i (by omega),qOl,qAp (by simpa using hk)];simp[qBI]
theorem qLl(w:List Int){n:Nat}{E:List (Nat->Int)}(hn:0<n):qC7 w (qC0 n E)=E.map (fun f=>qBI w f n):=by
 have hc:qBY (qC0 n E)=E.length:=qQU qEo (by rw[qAQ];exact hn);refine List.ext_getElem (by rw[qEA,hc,List.length_map]) (fun k h1 h2=> ?_);rw[List.length_map]at h2;have e:(qC7 w (qC0 n E))[k]=qGv w (qC0 n E) (qC0 n E).length k:=by simp[qC7]
 rw[e,qAQ,qIT w k h2 n (Nat.le_refl _),List.getElem_map]
theorem qQr(w:List Int){n:Nat}{E:List (Nat->Int)}(hn:0<n):(∀x∈qC7 w (qC0 n E),x=0) ↔ ∀f∈E,qBI w f n=0:=by
 rw[qLl w hn];constructor
 ·intro h f hf
  exact h _ (List.mem_map.2 ⟨f,hf,rfl⟩)
 ·intro h x hx
  obtain⟨f,hf,rfl⟩:=List.mem_map.1 hx;exact h f hf
theorem qQs{m K:List (List Int)}(hr:m.length<=5)(he:∀r∈m,r.length=qBY m)(hX:∀r∈m,∀x∈r,x.natAbs<=60)(hs:qBL m (K.map vec)):∀r∈K,∀x∈r, -topE<=x/\x<=topE:=by
 intro r hrr x hx;obtain⟨j,rfl⟩:=qMj hx;have:=(hs.norm he).bound (K:=5) (X:=60) (qJV he) (by rw[qAq];exact hr) (by omega) (qLM (by omega) hX) (vec r) (List.mem_map.2 ⟨r,hrr,rfl⟩) j;have e:5*(fac 5*60^5)=466560000000:=by decide
 rw[e]at this;unfold topE;omega
structure qEt(n:Nat)(E:List (Nat->Int))(K:List (List Int)):Prop where
 ker:qBL (qC0 n E) (K.map vec)
 row:∀r∈K,r.length=n
 len:K.length<=n
 top:∀r∈K,∀x∈r, -topE<=x/\x<=topE
section
variable {n:Nat}{E E':List (Nat->Int)}{K K':List (List Int)}
theorem qEt.in_(h:qEt n E K)(h0:0<n)(hn:n<=64){w:List Int}(hw:w.length=n):InB K w ↔ ∀f∈E,qBI w f n=0:=
 (qRA (by rw[qAQ];exact hn) (by have:=h.len;omega) qI5 (fun r hr=>by rw[h.row r hr,qAQ]) h.ker (by rw[hw,qAQ])).trans (qQr w h0)
theorem qEt.law(h:qEt n E K)(h0:0<n)(hn:n<=64){w:List Int}(hw:w∈K):∀f∈E,qBI w f n=0:=
 (h.in_ h0 hn (h.row w hw)).1 ⟨by have:=h.len;omega,by rw[h.row w hw];omega,by rw[h.row w hw];exact qM3 h.row h.ker.nrm,qAa.mem (List.mem_map.2 ⟨w,hw,rfl⟩)⟩
theorem qEt.uniq(h:qEt n E K)(h':qEt n E K'):K=K':=qFU h.row h'.row (h.ker.uniq h'.ker)
end
theorem qKY(w:List Int)(f g:Nat->Int):∀n,qBI w (fun i=>f i+g i) n=qBI w f n+qBI w g n
 |0=>rfl
 |n+1=>by
  simp only[qBI];rw[qKY w f g n,Int.mul_add];omega
theorem qG8(w:List Int){f g:Nat->Int}:∀n,(∀i,i<n->f i=g i)->qBI w f n=qBI w g n
 |0,_=>rfl
 |n+1,h=>by
  simp only[qBI];rw[qG8 w n (fun i hi=>h i (by omega)),h n (by omega)]
theorem qHS{w:List Int}{f:Nat->Int}{A B:Nat}(hw:∀x∈w,x.natAbs<=A):∀n,(∀i,i<n->(f i).natAbs<=B)->(qBI w f n).natAbs<=n*(A*B)
 |0,_=>by simp[qBI]
 |n+1,h=>by
  have ih:=qHS hw n (fun i hi=>h i (by omega));have h1:(w.getD n 0).natAbs<=A:=by
   rw[List.getD_eq_getElem?_getD];rcases Nat.lt_or_ge n w.length with h2|h2
   ·rw[List.getElem?_eq_getElem h2];exact hw _ (List.getElem_mem h2)
   ·rw[List.getElem?_eq_none h2];simp
  have h2:(w.getD n 0*f n).natAbs<=A*B:=by rw[Int.natAbs_mul];exact Nat.mul_le_mul h1 (h n (by omega))
  have h3:(qBI w f (n+1)).natAbs<=(qBI w f n).natAbs+(w.getD n 0*f n).natAbs:=by
   show(qBI w f n+w.getD n 0*f n).natAbs<=_
   omega
  rw[Nat.succ_mul];omega
open Go.RowKit
def qCH(c:Cat):List (Nat->Int):=(qC4 c).map (fun x=>x.2)
def xV(x:Yw)(r:List Int):Value:=.slice x.1 r.length x.2
theorem qRh(l:List Yw)(M:List (List Int))(i:Nat)(x:Yw)(r:List Int)(h:i<l.length)(h':i<M.length):List.zipWith xV (l.set i x) (M.set i r)=(List.zipWith xV l M).set i (xV x r):=by
 refine List.ext_getElem (by simp) (fun k h1 h2=> ?_);simp only[List.getElem_zipWith,List.getElem_set]
 split<;>rfl
structure EMt(w:World)(B R:Nat)(l:List Yw)(M:List (List Int)):Prop where
 len:M.length=l.length
 blk:qAf w R 22 (List.zipWith xV l M)
 row:∀i (h:i<l.length) (h':i<M.length),w.ownsRow B 3 1 (xV l[i] M[i]) M[i].length (M[i].map zv)
 nodup:∀i j (h:i<l.length) (h':j<l.length) (k:i<M.length) (k':j<M.length) g,i≠j->(xV l[i] M[i]).ownBlock=some g->(xV l[j] M[j]).ownBlock≠some g
section
variable {w w':World}{B R:Nat}{l:List Yw}{M:List (List Int)}
theorem EMt.only{S:Nat->Prop}(h:EMt w B R l M)(ho:qAc S w w')(hR:¬S R)(hS:∀b,S b->b<B):EMt w' B R l M:=
 ⟨h.len,h.blk.only ho hR,fun i h1 h2=>ho.own (h.row i h1 h2) (fun b hb hs=>by have:=((h.row i h1 h2).lt b hb).1;have:=hS b hs;omega),h.nodup⟩
theorem EMt.at_(h:EMt w B R l M)(i:Nat)(hi:i<l.length)(hi':i<M.length):w.cell? ⟨R,i,none⟩=some (xV l[i] M[i]):=by
 rw[h.blk.cell,List.getElem?_eq_getElem (by simp;omega),List.getElem_zipWith]
theorem EMt.mat(h:EMt w B R l M)(hl:l.length<=1000):qA8 w (.slice (some ⟨R,0,none⟩) M.length M.length) M:=by
 refine qBc (k:=1) (xs:=M) (css:=(List.zipWith xV l M).map (fun v=>[v])) (by rw[qBf (fun v=>v),List.map_id'];exact h.blk) (fun cs hc=>by obtain⟨_,_,rfl⟩:=List.mem_map.1 hc;rfl) (by simp[h.len]) (fun j h1 h2=> ?_) (Nat.le_refl _) (by have:=h.len;omega);have h3:j<l.length:=by rw[<-h.len];exact h1
 refine⟨xV l[j] M[j],by simp,?_⟩;exact qAg.of_own (h.row j h3 h1)
theorem EMt.app(h:EMt w B R l M){i:Nat}(hi:i<l.length)(hi':i<M.length){g cap:Nat}{z:Int}(hRB:R<B)
 (ho:w'.ownsRow B 3 1 (.slice (some ⟨g,0,none⟩) (M[i].length+1) cap) (M[i].length+1) (M[i].map zv++[zv z]))
 (hon:qAc (fun b=>(xV l[i] M[i]).ownBlock=some b) w w')(hat:(xV l[i] M[i]).ownBlock=some g\/w.heap.size<=g):
 EMt (w'.setCell ⟨R,i,none⟩ (.slice (some ⟨g,0,none⟩) (M[i].length+1) cap)) B R (l.set i (some ⟨g,0,none⟩,cap)) (M.set i (M[i]++[z])):=by
 have hoR:qAc (fun b=>b=R) w' (w'.setCell ⟨R,i,none⟩ (.slice (some ⟨g,0,none⟩) (M[i].length+1) cap)):=(qAc.refl (fun b=>b=R) w').set (p:=⟨R,i,none⟩) rfl _;have hv:xV (some ⟨g,0,none⟩,cap) (M[i]++[z])=.slice (some ⟨g,0,none⟩) (M[i].length+1) cap:=by simp[xV]
 have hb1:qAf w' R 22 (List.zipWith xV l M):=h.blk.only hon (fun e=>by have:=((h.row i hi hi').lt R e).1;omega);have hge:∀k (hk:k<l.length) (hk':k<M.length),k≠i->(xV l[k] M[k]).ownBlock≠some g:=fun k hk hk' hn e=>by
  rcases hat with h1|h1
  ·exact h.nodup k i hk hi hk' hi' g hn e h1
  ·have:=((h.row k hk hk').lt g e).2;omega
 refine⟨by simp[h.len],by rw[qRh _ _ _ _ _ hi hi',hv];exact hb1.set i _,fun k hk hk'=> ?_,fun a b ha hb ka kb q hn e1 e2=> ?_⟩
 ·by_cases hki:k=i
  ·subst hki
   simp only[List.getElem_set_self];rw[hv,List.length_append,List.map_append];exact hoR.own ho (fun b hb e=>by have:=(ho.lt b hb).1;omega)
  ·simp only[List.getElem_set_ne (Ne.symm hki)]
   have hk2:k<l.length:=by simpa using hk
   have hk3:k<M.length:=by simpa using hk'
   refine hoR.own (hon.own (h.row k hk2 hk3) (fun b hb e=>h.nodup k i hk2 hi hk3 hi' b hki hb e)) (fun b hb e=>by have:=((h.row k hk2 hk3).lt b hb).1;omega)
 ·have ha2:a<l.length:=by simpa using ha
  have hb2:b<l.length:=by simpa using hb
  have ka2:a<M.length:=by simpa using ka
  have kb2:b<M.length:=by simpa using kb
  by_cases hai:a=i
  ·subst hai
   simp only[List.getElem_set_self]at e1;simp only[List.getElem_set_ne hn]at e2;rw[hv]at e1;injection e1 with e1;subst e1;exact hge b hb2 kb2 (Ne.symm hn) e2
  ·by_cases hbi:b=i
   ·subst hbi
    simp only[List.getElem_set_self]at e2;simp only[List.getElem_set_ne (Ne.symm hn)]at e1;rw[hv]at e2;injection e2 with e2;subst e2;exact hge a ha2 ka2 hn e1
   ·simp only[List.getElem_set_ne (Ne.symm hai)]at e1
    simp only[List.getElem_set_ne (Ne.symm hbi)]at e2;exact h.nodup a b ha2 hb2 ka2 kb2 q hn e1 e2
theorem EMt.keeps{n0:Nat}{W0:World}{R':Nat}(h:EMt w B R l M)(hk:qBG n0 W0 w)(hB:B=n0+1){i:Nat}(hi:i<l.length)(hi':i<M.length)(hon:qAc (fun b=>(xV l[i] M[i]).ownBlock=some b) w w'):qBG n0 W0 w':=by
 refine⟨Nat.le_trans hk.1 hon.size,fun b t cs hb hc ht=> ?_⟩;have h1:=hk.2 b t cs hb hc ht;rcases ht with rfl|ht
 ·exact h1.only hon (fun e=>by have:=((h.row i hi hi').lt b e).1;omega)
 ·exact h1.onlyT (h.row i hi hi') ht hon
theorem qBG.pre{n0:Nat}{W0:World}(hk:qBG n0 w w'){S:Nat->Prop}(ho:qAc S W0 w)(hS:∀b,n0<=b->¬S b):qBG n0 W0 w':=
 ⟨Nat.le_trans ho.size hk.1,fun b t cs hb hc ht=>hk.2 b t cs hb (hc.only ho (hS b hb)) ht⟩
theorem qBG.set{n0:Nat}{W0:World}(hk:qBG n0 W0 w){S:Nat->Prop}(ho:qAc S w w')(hS:∀b,n0<=b->¬S b):qBG n0 W0 w':=
 ⟨Nat.le_trans hk.1 ho.size,fun b t cs hb hc ht=>(hk.2 b t cs hb hc ht).only ho (hS b hb)⟩
end
theorem qLr{P:Program}{w:World}{ops:Array Oper}{o:Oper}{a:Act}{K:Act->World->Prop}{Q:Exit->Act->World->Prop}{E:Prop}{B k bytes:Nat}{t e:TypeId}(hE:qEv P t e k bytes)(hgd:o.guard=none)(s x:Operand)
 (ho:o.op=.call { callee:=.builtin .append,args:=#[s,x],argTypes:=#[t,t] })(cs:List Value)(g0:Nat)
 (v:Value)(n:Nat)(xs:List Value)(hs:a.eval s=v)(hx:a.eval x=.slice (some ⟨g0,0,none⟩) 1 1)(hg0:qAf w g0 e cs)(hcs:cs.length=k)(h1:∀u∈cs,u.oneCell'=true)
 (hown:w.ownsRow B e k v n xs)(hle:B<=w.heap.size)(hn:n<=1000000000)(hby:bytes<=1000)
 (h:∀g cap w',Hid (w'.ownsRow B e k (.slice (some ⟨g,0,none⟩) (n+1) cap) (n+1) (xs++cs))->Hid (qAc (fun b=>v.ownBlock=some b) w w')->Hid (v.ownBlock=some g\/w.heap.size<=g)->K (a.put o.dst (.slice (some ⟨g,0,none⟩) (n+1) cap)) w'):
 if Region.wanted o (yielded ops a.tmps)=true then Oper.wp P o a w K Q else E:=by
 obtain⟨ht,i,z,hi,hz,hsize,hbyt,hzs,hk⟩:=hE;have hcap:(n+1)*bytes<=140737488355328:=Nat.le_trans (Nat.mul_le_mul (show n+1<=1000000001 by omega) hby) (by decide);refine step_append_lies w hgd s x t ho B e i z k bytes ht hi hz hsize hbyt hzs hk v n xs hs hown ⟨g0,0,none⟩ 1 1 cs hx (by rw[Nat.one_mul];exact hcs) ?_ h1 (by omega) (by unfold maxLen;omega) hcap hle w.heap.size rfl ?_
 ·intro j u hu
  have hadd:(⟨g0,0,none⟩:Addr).add j=⟨g0,j,none⟩:=by unfold Addr.add;split<;>simp_all
  rw[hadd,hg0.cell];exact hu
 ·intro g cap w' ho' hg hat hlt
  exact h g cap w' (hZ ho') (hZ (qBz hg)) (hZ (hat.imp id (fun e=>Nat.le_of_eq e.symm)))
def qHc(n:Nat)(E:List (Nat->Int))(k i:Nat):List (List Int):=(List.range n).map (fun q=>(E.take (if q<i then k+1 else k)).map (fun f=>f q))
theorem qK7{n:Nat}{E:List (Nat->Int)}{k i:Nat}:(qHc n E k i).length=n:=by simp[qHc]
theorem qGl{n:Nat}{E:List (Nat->Int)}{k i q:Nat}(h:q<(qHc n E k i).length):(qHc n E k i)[q]=(E.take (if q<i then k+1 else k)).map (fun f=>f q):=by simp[qHc]
theorem qNY(n:Nat)(E:List (Nat->Int))(k:Nat):qHc n E k 0=qC0 n (E.take k):=by
 unfold qHc qC0;simp
theorem qN0(n:Nat)(E:List (Nat->Int))(k:Nat):qHc n E k n=qC0 n (E.take (k+1)):=by
 unfold qHc qC0;refine List.map_congr_left (fun q hq=> ?_);rw[if_pos (List.mem_range.1 hq)]
theorem qNZ{n:Nat}{E:List (Nat->Int)}{k i:Nat}(hi:i<(qHc n E k i).length)(hk:k<E.length):(qHc n E k i).set i ((qHc n E k i)[i]++[E[k] i])=qHc n E k (i+1):=by
 refine List.ext_getElem (by simp[qK7]) (fun q h1 h2=> ?_);rw[List.getElem_set]
 split
 ·next e=>
  subst e;rw[qGl,qGl,if_neg (by omega),if_pos (by omega),List.take_succ_eq_append_getElem hk,List.map_append];rfl
 ·next e=>
  rw[qGl,qGl];by_cases h:q<i
  ·rw[if_pos h,if_pos (by omega)]
  ·rw[if_neg h,if_neg (by omega)]
theorem qPm{n:Nat}{E:List (Nat->Int)}{k i:Nat}(hi:i<(qHc n E k i).length)(hk:k<=E.length):(qHc n E k i)[i].length=k:=by
 rw[qGl,if_neg (by omega)];simp[hk]
theorem qMJ:∀(rs:List Rul) (j:Nat),(qC3 j rs).length<=2*rs.length
 |[],_=>by simp[qC3]
 |r::rs,j=>by
  have:=qMJ rs (j+1);have h2:(qEb j r).length<=2:=by
   unfold qEb
   split
   ·simp
   ·rw[List.length_map];exact(qOB r).2
  simp only[qC3,List.length_append,List.length_cons];omega
theorem qJ4{c:Cat}(hg:qHf c):(qCH c).length<=44:=by
 have:=qMJ c.rules 0;have:=hg.rules;unfold qCH qC4;rw[List.length_map];omega
attribute [local go_sem] Oper.semAt_some
open Go.RowKit Go.Shelf
def qCZ(ws ls:List Int):Nat->Int
 |0=>0
 |k+1=>qCZ ws ls k+ws.getD k 0*ls.getD k 0
def B64(z:List Int):Prop:=∀i∈z, -9223372036854775808<=i/\i<=9223372036854775807
theorem B64.at_{z:List Int}(h:B64 z)(k:Nat)(hk:k<z.length): -9223372036854775808<=z[k]/\z[k]<=9223372036854775807:=h _ (List.getElem_mem hk)
theorem qMQ(x y:Int)(hx: -9223372036854775808<=x/\x<=9223372036854775807)(hy: -9223372036854775808<=y/\y<=9223372036854775807):(x*y).natAbs<=2^126:=by
 rw[Int.natAbs_mul];have h1:x.natAbs<=2^63:=by omega
 have h2:y.natAbs<=2^63:=by omega
 exact Nat.le_trans (Nat.mul_le_mul h1 h2) (by decide)
theorem qNw{z:List Int}(h:B64 z)(k:Nat): -9223372036854775808<=z.getD k 0/\z.getD k 0<=9223372036854775807:=by
 rw[List.getD_eq_getElem?_getD];rcases Nat.lt_or_ge k z.length with h1|h1
 ·rw[List.getElem?_eq_getElem h1];exact h.at_ k h1
 ·rw[List.getElem?_eq_none h1];simp
theorem qMs{ws ls:List Int}(hw:B64 ws)(hl:B64 ls):∀k,(qCZ ws ls k).natAbs<=k*2^126
 |0=>by simp[qCZ]
 |k+1=>by
  have ih:=qMs hw hl k;have hp:=qMQ _ _ (qNw hw k) (qNw hl k);have h3:(qCZ ws ls (k+1)).natAbs<=(qCZ ws ls k).natAbs+(ws.getD k 0*ls.getD k 0).natAbs:=by
   show(qCZ ws ls k+_).natAbs<=_
   omega
  rw[Nat.succ_mul];omega
theorem qIv(a b c x:Nat)(h:0<a)(hbc:b<=c)(hx:x<=a^b):x<=a^c:=Nat.le_trans hx (Nat.pow_le_pow_right h hbc)
theorem qJS:2^200<=LIM:=qKN▸qIv W2 7 512 (2^200) (by decide) (by decide) (by decide)
theorem qD7{ws ls:List Int}(hw:B64 ws)(hl:B64 ls)(k:Nat)(hk:k<=1000000):(qCZ ws ls k).natAbs<LIM:=by
 have h1:=qMs hw hl k;have h2:k*2^126<=1000000*2^126:=Nat.mul_le_mul_right _ hk;exact Nat.lt_of_lt_of_le (Nat.lt_of_le_of_lt (Nat.le_trans h1 h2) (by decide)) qJS
theorem qMf(x y:Int)(hx: -9223372036854775808<=x/\x<=9223372036854775807)(hy: -9223372036854775808<=y/\y<=9223372036854775807):(x*y).natAbs<LIM:=
 Nat.lt_of_lt_of_le (Nat.lt_of_le_of_lt (qMQ x y hx hy) (by decide)) qJS
theorem qHL(x:Int)(hx: -9223372036854775808<=x/\x<=9223372036854775807):x.natAbs<LIM:=
 Nat.lt_of_lt_of_le (show x.natAbs<2^200 from Nat.lt_of_le_of_lt (show x.natAbs<=2^63 by omega) (by decide)) qJS
theorem Two.set0{w:World}{b:Nat}{t:TypeId}{x y:Value}(h:Two w b t x y)(u v:Value):Two ((w.setCell ⟨b,0,none⟩ u).setCell ⟨b,1,none⟩ v) b t u v:=by
 unfold Two at h ⊢;simp[World.setCell,Array.getElem?_modify,h]
theorem Two.farG{w:World}{b:Nat}{t:TypeId}{x y:Value}(h:Two w b t x y){g:Nat}(hg:b≠g)(o:Nat)(u:Value):Two (w.setCell ⟨g,o,none⟩ u) b t x y:=(Below.heap_setCell w ⟨g,o,none⟩ u b hg).trans h
theorem qC6(vw vl:Value)(ws ls:List Int)(w:World)(hw:qAg w vw ws)(hl:qAg w vl ls)(h1:B64 ws)(h2:B64 ls)(hlen:ls.length<=ws.length)(hmax:ls.length<=1000000):
 Calls Tryz.prog 47 #[vw,vl] w fun e w'=>(∃v,e=.returned v/\qAr w' v (qCZ ws ls ls.length))/\Below w.heap.size w w':=by
 obtain⟨aw,cw,rfl, -,-⟩:=hw.form;obtain⟨al,cl,rfl, -,-⟩:=hl.form;have HW:=hZ hw;have HL:=hZ hl;have H1:=hZ h1;have H2:=hZ h2;clear hw hl h1 h2;obtain⟨bs,hbs⟩:=eX w.heap.size
 go_enter Tryz.func47,Tryz.ntmps47
 go_wp2_with fail
 obtain⟨w1,hw1⟩:=eX ((w.alloc (.cells #[.bool false,.slice none 0 0] 73)).alloc (.cells #[.bool false,.slice none 0 0] 73));have hB1:Below bs w w1:=by rw[<-hw1,<-hbs];exact aR.alloc (by simp) _
 have HT0:Hid (Two w1 bs 73 (.bool false) (.slice none 0 0)):=hZ (by rw[<-hw1,<-hbs];exact(Two.new w _ _ _).alloc _);have HT1:Hid (Two w1 (bs+1) 73 (.bool (decide ((0:Int)<0))) (.slice none 0 0)):=hZ (by
  have h9:=Two.new (w.alloc (.cells #[.bool false,.slice none 0 0] 73)) 73 (.bool false) (.slice none 0 0);rw[hw1]at h9;simpa[hbs]using h9)
 have HB1:=hZ hB1;rw[hw1];clear hw1 hB1
 go_loopw [12] (fun i wr=>∃(k:Nat) (a:Option Addr) (n c:Nat),k<=ls.length/\i=.int .i64 k/\Hid (Below bs w wr)/\Hid (Two wr bs 73 (.bool false) (.slice none 0 0))/\Hid (Two wr (bs+1) 73 (.bool (decide (qCZ ws ls k<0))) (.slice a n c))/\Hid (qAr wr (.agg #[.bool (decide (qCZ ws ls k<0)),.slice a n c]) (qCZ ws ls k))) (fun i _=>ls.length-(intOf i).toNat)
 case atStart=>exact⟨0,none,0,0,by omega,rfl,HB1,HT0,HT1,hZ (by simpa[qCZ]using qAJ w1)⟩
 case round=>
  clear HB1 HT0 HT1;obtain⟨k,sa,sn,sc,hk,rfl,HB,HT0,HT1,HS⟩:=hrel;by_cases hlt:k<ls.length
  ·have hbw:Below w.heap.size w wr:=by rw[hbs];exact HB.o
   obtain⟨b1,cap1,hv1,hb1,n0⟩:=qAg.at_ (HL.o.below hbw) k hlt;injection hv1 with e1 e2 e3;subst e1;clear e2 e3;obtain⟨b2,cap2,hv2,hb2,m0⟩:=qAg.at_ (HW.o.below hbw) k (by omega);injection hv2 with e1 e2 e3;subst e1;clear e2 e3;have hx1:=H2.o.at_ k hlt;have hy1:=H1.o.at_ k (by omega);have HSS:Hid (qCZ ws ls (k+1)=qCZ ws ls k+ws[k]*ls[k]):=hZ (by
    show qCZ ws ls k+ws.getD k 0*ls.getD k 0=_
    rw[List.getD_eq_getElem?_getD,List.getD_eq_getElem?_getD,List.getElem?_eq_getElem hlt,List.getElem?_eq_getElem (show k<ws.length by omega)];rfl)
   have HSL:=hZ (qD7 H1.o H2.o k (by omega));have HSL2:=hZ (qD7 H1.o H2.o (k+1) (by omega));generalize ls[k]=x at *;generalize ws[k]'_=y at *;have i1:(0:Int)<=(k:Int):=by omega
   have i2:(k:Int)<(ls.length:Int):=by omega
   have i3:(k:Int)<(ws.length:Int):=by omega
   have HPL:=hZ (qMf y x hy1 hx1);clear hbw;by_cases hx0:x=0
   ·have HE:Hid (qCZ ws ls (k+1)=qCZ ws ls k):=hZ (by rw[HSS.o,hx0];simp)
    subst hx0
    go_wp2_with fail
    go_roundw
    case rel=>exact⟨k+1,sa,sn,sc,by omega,by go_num,HB,HT0,by rw[HE.o];exact HT1,by rw[HE.o];exact HS⟩
    case measure=>simp[intOf];omega
   ·by_cases hy0:y=0
    ·have HE:Hid (qCZ ws ls (k+1)=qCZ ws ls k):=hZ (by rw[HSS.o,hy0];simp)
     subst hy0;have q1:(x != 0)=true:=by simpa using hx0
     go_wp2_with fail
     go_roundw
     case rel=>exact⟨k+1,sa,sn,sc,by omega,by go_num,HB,HT0,by rw[HE.o];exact HT1,by rw[HE.o];exact HS⟩
     case measure=>simp[intOf];omega
    ·have q1:(x != 0)=true:=by simpa using hx0
     have q2:(y != 0)=true:=by simpa using hy0
     go_wp2_with fail
     refine(qHO y wr hy1.1 hy1.2).mono ?_;rintro e w2 ⟨v2,rfl,hI2,hB2⟩;have HI2:=hZ hI2;have HBr:=hZ hB2;clear hI2 hB2
     go_wp2_with fail
     refine(qHO x w2 hx1.1 hx1.2).mono ?_;rintro e w3 ⟨v3,rfl,hI3,hB3⟩;replace HI2:=hZ (HI2.o.below hB3);replace HBr:=hZ (HBr.o.trans (hB3.mono HBr.o.size));have HI3:=hZ hI3;clear hI3 hB3
     go_wp2_with fail
     refine(qM8 v2 v3 y x w3 HI2.o HI3.o (qHL y hy1) (qHL x hx1)).mono ?_;rintro e w4 hP;obtain⟨pa,pn,pc,rfl,hPm,hB4⟩:=hP.ok HPL.o;have HP:Hid (qAr w4 (.agg #[.bool (decide (y*x<0)),.slice pa pn pc]) (y*x)):=hZ ⟨_,rfl,hPm⟩;replace HBr:=hZ (HBr.o.trans (hB4.mono HBr.o.size));clear hP hPm hB4 HI2 HI3;generalize decide (y*x<0)=sp at *;obtain⟨w5,hw5⟩:=eX (w4.alloc (.cells #[.bool sp,.slice pa pn pc] 73));have hB5:Below w4.heap.size w4 w5:=by rw[<-hw5];exact aR
     have HT5:Hid (Two w5 w4.heap.size 73 (.bool sp) (.slice pa pn pc)):=hZ (by rw[<-hw5];exact Two.new _ _ _ _);replace HP:=hZ (HP.o.below hB5);replace HBr:=hZ (HBr.o.trans (hB5.mono HBr.o.size));have HT15:=hZ (HT1.o.below HBr.o HT1.o.lt);have HS5:=hZ (HS.o.below HBr.o);generalize hss:decide (qCZ ws ls k<0)=ss at *;have p0:=HT5.o.cell0;have p1:=HT5.o.cell1;have s0:=HT15.o.cell0;have s1:=HT15.o.cell1;clear hB5 hss
     go_wp2_with fail
     clear hw5 p0 p1 s0 s1;refine(qKl _ _ _ _ w5 HS5.o HP.o HSL.o HPL.o).mono ?_;rintro e w6 hQ;have hsm:=HSL2.o;rw[HSS.o]at hsm;obtain⟨qa,qn,qc,rfl,hQm,hB6⟩:=hQ.ok hsm;rw[<-HSS.o]at hQm ⊢;have HQ:Hid (qAr w6 (.agg #[.bool (decide (qCZ ws ls (k+1)<0)),.slice qa qn qc]) (qCZ ws ls (k+1))):=hZ ⟨_,rfl,hQm⟩;have HB6:=hZ (HBr.o.trans (hB6.mono HBr.o.size));have hT16:=HT1.o.below HB6.o HT1.o.lt;have s0:=hT16.cell0;have s1:=hT16.cell1;have f0:=hT16.frozen 0;have f1:=hT16.frozen 1;have HT16:=hZ hT16;have HT06:=hZ (HT0.o.below HB6.o HT0.o.lt);generalize hsq:decide (qCZ ws ls (k+1)<0)=sq at *;obtain⟨w7,hw7⟩:=eX ((w6.setCell ⟨bs+1,0,none⟩ (.bool sq)).setCell ⟨bs+1,1,none⟩ (.slice qa qn qc));have HB7:Hid (Below bs w w7):=hZ (by
      rw[<-hw7];have h9:=HB.o.trans (HB6.o.mono (by have:=HB.o.size;omega));exact(h9.setCell (p:=⟨bs+1,0,none⟩) (by simp) _).setCell (p:=⟨bs+1,1,none⟩) (by simp) _)
     have HT07:Hid (Two w7 bs 73 (.bool false) (.slice none 0 0)):=hZ (by rw[<-hw7];exact(HT06.o.farG (g:=bs+1) (by omega) 0 _).farG (g:=bs+1) (by omega) 1 _);have HT17:Hid (Two w7 (bs+1) 73 (.bool sq) (.slice qa qn qc)):=hZ (by rw[<-hw7];exact HT16.o.set0 _ _);have HQ7:Hid (qAr w7 (.agg #[.bool sq,.slice qa qn qc]) (qCZ ws ls (k+1))):=hZ (by
      obtain⟨vw,hv,hm⟩:=HQ.o;rw[<-hw7];exact⟨vw,hv,qAd.store_two hm HT16.o (fun _ _ h=>by cases h) (fun _ _ h=>by cases h) _ _⟩)
     clear hQ hsm hQm hB6 hT16 HSS
     go_wp2_with fail
     clear hw7 s0 s1 f0 f1;go_roundw
     case rel=>exact⟨k+1,qa,qn,qc,by omega,by go_num,HB7,HT07,by rw[hsq];exact HT17,by rw[hsq];exact HQ7⟩
     case measure=>simp[intOf];omega
  ·obtain rfl:k=ls.length:=by omega
   generalize hss:decide (qCZ ws ls ls.length<0)=ss at *;have s0:=HT1.o.cell0;have s1:=HT1.o.cell1;have r0:=HT0.o.cell0;have r1:=HT0.o.cell1;have f0:=HT0.o.frozen 0;have f1:=HT0.o.frozen 1
   go_wp2_with fail
   have hTz:=HT0.o.set0 (.bool ss) (.slice sa sn sc);have hBz:Below w.heap.size w ((wr.setCell ⟨bs,0,none⟩ (.bool ss)).setCell ⟨bs,1,none⟩ (.slice sa sn sc)):=by
    rw[hbs];exact(HB.o.setCell (p:=⟨bs,0,none⟩) (Nat.le_refl _) _).setCell (p:=⟨bs,1,none⟩) (Nat.le_refl _) _
   have hSz:qAr ((wr.setCell ⟨bs,0,none⟩ (.bool ss)).setCell ⟨bs,1,none⟩ (.slice sa sn sc)) (.agg #[.bool ss,.slice sa sn sc]) (qCZ ws ls ls.length):=by
    obtain⟨vw,hv,hm⟩:=HS.o;exact⟨vw,hv,qAd.store_two hm HT0.o (fun _ _ h=>by cases h) (fun _ _ h=>by cases h) _ _⟩
   have z0:=hTz.cell0;have z1:=hTz.cell1;exact bodyPost_ret (v:=.agg #[.bool ss,.slice sa sn sc]) (by simp[results,Tryz.results47,go_sem,z0,z1]) rfl ⟨⟨_,rfl,hSz⟩,hBz⟩
def qBO(n:Nat)(f:Nat->Int):List Int:=(List.range n).map f
theorem qAz(n:Nat)(f:Nat->Int):(qBO n f).length=n:=by simp[qBO]
theorem qJ3{n M:Nat}{lt lg:List Amt}(h1:qAM n 1000 2 lt)(h2:qAM n 1000 2 lg)(i:Nat): -2000<=qBE lt lg i/\qBE lt lg i<=2000:=by
 have a:=qBS h1 i;have b:=qBS h2 i;unfold qBE;omega
theorem qOx{c:Cat}(hg:qHf c){x:Nat×(Nat->Int)}(h:x∈qC4 c):x.1<c.rules.length/\∀i, -2000<=x.2 i/\x.2 i<=2000:=by
 obtain⟨r,hr,l,hl,he,hs,h5,h6,h7⟩:=qHt c.rules 0 x h;have hgr:=hg.each r hr;refine⟨by omega,fun i=> ?_⟩;rw[he];unfold qCM at hl
 split at hl
 ·simp only[List.mem_cons,List.not_mem_nil,or_false]at hl
  rcases hl with rfl|rfl
  ·exact qJ3 (M:=0) hgr.take hgr.give i
  ·exact qJ3 (M:=0) hgr.take hgr.back i
 ·simp only[List.mem_cons,List.not_mem_nil,or_false]at hl
  subst hl;exact qJ3 (M:=0) hgr.take hgr.give i
theorem qNM{c:Cat}(hg:qHf c){x:Nat×(Nat->Int)}(h:x∈qC4 c)(n:Nat):B64 (qBO n x.2):=by
 intro i hi;obtain⟨q,_,rfl⟩:=List.mem_map.1 hi;have:=(qOx hg h).2 q;omega
def qFi(ws:List Int)(n:Nat)(f:Nat->Int):Int:=qCZ ws (qBO n f) (qBO n f).length
def qDd(c:Cat)(ws:List Int):Bool:=decide (ws.length=c.items.length) && (qC4 c).all (fun x=>decide (qFi ws c.items.length x.2=0))
structure HoJ(Wb:World)(c:Cat)(ws:List Int)(rb l n0:Nat)(rec:LoopState->Option Code->Loop)(k:Nat)(W:World):Prop where
 on:qAc (fun b=>b=rb\/b=l\/n0<=b) Wb W
 sz:n0<=W.heap.size
 rd:W.heap[l]? =some (.loop (rec .ready none))
 r:One W rb 4 (.bool false)
 no:∀q x,q<k->(qC4 c)[q]? =some x->qFi ws c.items.length x.2=0
theorem HoJ.below{Wb:World}{c:Cat}{ws:List Int}{rb l n0:Nat}{rec:LoopState->Option Code->Loop}{k:Nat}{W W':World}(h:HoJ Wb c ws rb l n0 rec k W)(hb:Below n0 W W')(h1:rb<n0)(h2:l<n0):HoJ Wb c ws rb l n0 rec k W':=
 ⟨h.on.trans ⟨hb.os,hb.tape,hb.output,hb.size,fun k hk hn=>hb.block k (by omega)⟩,Nat.le_trans h.sz hb.size,(hb.block _ h2).trans h.rd,h.r.below hb h1,h.no⟩
structure HoX(Wb:World)(c:Cat)(ws:List Int)(rb l n0:Nat)(rec:LoopState->Option Code->Loop)(W:World):Prop where
 on:qAc (fun b=>b=rb\/b=l\/n0<=b) Wb W
 rd:W.heap[l]? =some (.loop (rec .done (some .ret)))
 r:One W rb 4 (.bool false)
 ex:qDd c ws=false
theorem qEp(x:Int):qAV x 0=0 ↔ x=0:=by
 unfold qAV
 split
 ·omega
 ·split<;>omega
theorem qIO(vi vr vw:Value)(c:Cat)(ws:List Int)(w:World)(hc:qAS w vi vr c)(hf:qL8 c)(hw:qAg w vw ws)(h64:B64 ws)(hK:qAZ w):
 CallsIn Fence.wide 31 Tryz.prog 15 #[qBo vi vr,vw] w fun e w'=>e=.returned (.bool (qDd c ws))/\Below w.heap.size w w':=by
 obtain⟨ai,ci,rfl,hi1,hi2⟩:=hc.items.form;obtain⟨ar,cr,rfl,hr1,hr2⟩:=hc.rules.form;obtain⟨aw,cw,rfl, -,-⟩:=hw.form;have HC:=hZ hc;have HF:=hZ hf;have HK:=hZ hK;have HW:=hZ hw;have H64:=hZ h64;have hli:=hf.good.items;clear hc hf hK hw h64;unfold qBo;refine callsIn_of_wp_marks Tryz.func15 rfl trivial ?_ rfl;simp only[Tryz.ntmps15,List.size_toArray,List.length_cons,List.length_nil,Nat.reduceAdd,Nat.reduceSub,Array.replicate_succ,Array.replicate_zero,List.push_toArray,List.append_toArray,List.nil_append,List.cons_append];refine wpIn_wide.2 ?_;obtain⟨w1,hw1⟩:=eX ((((w.alloc (.cells #[.slice ai c.items.length ci,.slice ar c.rules.length cr,.slice none 0 0,.slice none 0 0] 28)).alloc (.cells #[.slice aw ws.length cw] 22)).alloc (.cells #[.bool false] 4)));have hB:∀(X:World) (o:Obj),Below X.heap.size X (X.alloc o):=fun X o=>aR;have HB:Hid (Below w.heap.size w w1):=hZ (by rw[<-hw1];exact(aR.alloc (by simp) _).alloc (by simp;omega) _);have HX:Hid (qBw w1 w.heap.size (.slice ai c.items.length ci) (.slice ar c.rules.length cr)):=hZ (by rw[<-hw1];exact((qBw.new w _ _).below (hB _ _)).below (hB _ _));have HWB:Hid (One w1 (w.heap.size+1) 22 (.slice aw ws.length cw)):=hZ (by
  rw[<-hw1];have h9:=(One.new (w.alloc (.cells #[.slice ai c.items.length ci,.slice ar c.rules.length cr,.slice none 0 0,.slice none 0 0] 28)) 22 (.slice aw ws.length cw)).alloc (.cells #[.bool false] 4);simpa using h9)
 have HRB:Hid (One w1 (w.heap.size+2) 4 (.bool false)):=hZ (by
  rw[<-hw1];have h9:=One.new ((w.alloc (.cells #[.slice ai c.items.length ci,.slice ar c.rules.length cr,.slice none 0 0,.slice none 0 0] 28)).alloc (.cells #[.slice aw ws.length cw] 22)) 4 (.bool false);simpa using h9)
 have m0:=HX.o.c0;have m1:=HX.o.c1;have m2:=HX.o.c2;have m3:=HX.o.c3;have mw:=HWB.o.cell;have mr:=HRB.o.cell;have mlt:=HX.o.lt;clear hB
 go_wp2_with fail
 clear hw1;refine(qDl _ _ c w1 (HC.o.below HB.o) HF.o.good HF.o.named HF.o.ni HF.o.nr (HK.o.keep HB.o)).mono ?_;rintro e w2 ⟨rfl,hB⟩;replace HB:=bT HB hB;replace HX:=hZ (HX.o.below hB);replace HWB:=hZ (HWB.o.below hB HWB.o.lt);replace HRB:=hZ (HRB.o.below hB HRB.o.lt);clear hB m0 m1 m2 m3 mw mr mlt;have m0:=HX.o.c0;have m1:=HX.o.c1;have m2:=HX.o.c2;have m3:=HX.o.c3;have mw:=HWB.o.cell;have mr:=HRB.o.cell;have mlt:=HX.o.lt;have mrf:=HRB.o.frozen;by_cases hle:ws.length=c.items.length
 ·have q1:((ws.length:Int) != (c.items.length:Int))=false:=by simp[hle]
  have q2:(ws.length != c.items.length)=false:=by simp[hle]
  have HLE:=hZ hle;clear hle
  go_wp2_with fail
  clear q1 q2;clear m0 m1 m2 m3 mw mr mlt mrf;refine(qDT _ _ _ _ _ _ w2).mono ?_;rintro e w' ⟨rfl,hw'⟩;obtain⟨wq,hwq⟩:=eX w';rw[hwq]at hw' ⊢;clear hwq;have hBq:Below w2.heap.size w2 wq:=by rw[<-hw'];exact aR
  have hbc:qBw wq w2.heap.size (.slice ai c.items.length ci) (.slice ar c.rules.length cr):=by rw[<-hw'];exact qBw.new _ _ _
  have hzq:wq.heap.size=w2.heap.size+1:=by rw[<-hw'];simp
  go_wp2_with fail
  refine(wpIn_wide (n:=31)).1 ?_;refine qDr rfl (by omega) (gf:=109) (lb:=#[.pointer (some ⟨w2.heap.size,0,none⟩)]) rfl trivial (enters_of Tryz.func109 (by kernel_rfl) rfl) ?_;intro fn _;generalize hrec:qEF fn _ _ _ _ _=rec;obtain⟨Wb,hWb⟩:=eX ((wq.alloc (.deferred (some []))).alloc (.loop (rec .ready none)));rw[hWb];obtain⟨lD,hlD⟩:=eX wq.heap.size;have hBb:Below lD wq Wb:=by rw[<-hWb,<-hlD];exact aR.alloc (by simp) _
  have hD:Wb.heap[lD]? =some (.deferred (some [])):=by
   rw[<-hWb,<-hlD];exact(Below.heap_alloc _ _ _ (by simp)).trans (World.alloc_heap_new _ _)
  have hL:Wb.heap[lD+1]? =some (.loop (rec .ready none)):=by
   have h9:=World.alloc_heap_new (wq.alloc (.deferred (some []))) (.loop (rec .ready none));rw[hWb]at h9;simpa[hlD]using h9
  have hzb:Wb.heap.size=lD+1+1:=by rw[<-hWb];simp[hlD]
  rw[hlD]at hrec ⊢;obtain⟨n0,hn0⟩:=eX (lD+1+1);obtain⟨l,hl⟩:=eX (lD+1);obtain⟨rb,hrb⟩:=eX (w.heap.size+1+1);obtain⟨wb,hwb⟩:=eX (w.heap.size+1);obtain⟨bc,hbcq⟩:=eX w2.heap.size;have hlD2:lD=bc+1:=by omega
  have hrw:w.heap.size+2=rb:=by omega
  rw[hrb,hwb,hbcq]at hrec ⊢;rw[hl]at hL ⊢;rw[hrw]at HRB;rw[hwb]at HWB;rw[hn0]at hzb;rw[hbcq]at hbc;have hrl:rb<bc:=by have:=HRB.o.lt;omega
  have hB2b:Below bc w2 Wb:=by
   have h9:Below bc w2 wq:=by rw[<-hbcq];exact hBq
   exact h9.trans (hBb.mono (by omega))
  have hbelb:Below w.heap.size w Wb:=HB.o.trans (hB2b.mono (by have:=HB.o.size;omega));have hbcb:=hbc.below (show Below wq.heap.size wq Wb by rw[hlD];exact hBb);have hRBb:One Wb rb 4 (.bool false):=HRB.o.below hB2b hrl;have hWBb:One Wb wb 22 (.slice aw ws.length cw):=HWB.o.below hB2b (by omega);have HBE:=hZ hbelb;have HBC:=hZ hbcb;have HWBb:=hZ hWBb;have HDb:=hZ hD;have HJ0:Hid (HoJ Wb c ws rb l n0 rec 0 Wb):=hZ ⟨qAc.refl _ _,by omega,hL,hRBb,fun q x hq=>by omega⟩;have HZ:=hZ hzb;clear hBq hbc hw' hzq hWb hBb hD hL hzb hB2b hbelb hbcb hRBb hWBb HX HWB HRB hlD;have hY:∀(k i:Nat) (f:Nat->Int) (W:World),(qC4 c)[k]? =some (i,f)->HoJ Wb c ws rb l n0 rec k W->qAf W n0 3 (qBa c.items.length f)->YieldAt Fence.wide 29 Tryz.prog l #[.int .i64 (i:Int),.slice (some ⟨n0,0,none⟩) c.items.length c.items.length] W fun e W'=>
   ((e=.returned (.bool true)/\HoJ Wb c ws rb l n0 rec (k+1) W')\/(e=.returned (.bool false)/\HoX Wb c ws rb l n0 rec W'))/\qBG n0 W W':=by
   intro k i f W hk hJ hbk;have hl9:=hJ.rd;rw[<-hrec]at hl9;refine qB8 trivial hl9 rfl ?_;rw[hrec]at hl9 ⊢;have Hrec:=hZ hrec;clear hrec;obtain⟨W2,hW2⟩:=eX (W.putObj l (.loop (rec .busy none)));have hO2:qAc (fun b=>b=l) W W2:=by rw[<-hW2];exact qAo _ _ _
   have hll:l<W.heap.size:=by have:=hJ.sz;omega
   have hl2:W2.heap[l]? =some (.loop (rec .busy none)):=by rw[<-hW2];exact World.putObj_heap_same hll
   have HJ:=hZ hJ;have HO2:=hZ hO2;have Hl2:=hZ hl2;have Hl9:=hZ hl9;have Hk:=hZ hk;have Hbk:=hZ (hbk.only hO2 (by omega));have Hr2:=hZ (hO2.one hJ.r (by omega));have HW2:=hZ (hO2.one (hJ.on.one HWBb.o (by omega)) (by omega));have Hb2:Hid (Below w.heap.size w W2):=hZ ((hJ.on.trans (hO2.mono (fun b hb=> .inr (.inl hb)))).below HBE.o HBE.o.size (fun b hb=>by omega));have mw:=HW2.o.cell;have hsz:=hJ.sz;clear hl9 hll hJ hk hbk hO2 hl2
   gi_wp2
   refine⟨Hl9.o,?_⟩;clear hW2
   repeat (first|go_values|gi_guarded|gi_step|gi_upon)
   have hmem:(i,f)∈qC4 c:=List.mem_of_getElem? Hk.o;have h64e:=qNM HF.o.good hmem c.items.length;have hel:=qAz c.items.length f;have hwa:=qC6 (.slice aw ws.length cw) (.slice (some ⟨n0,0,none⟩) c.items.length c.items.length) ws (qBO c.items.length f) W2 (HW.o.below Hb2.o) (qF3 Hbk.o (by omega)) H64.o h64e (by rw[hel,HLE.o];exact Nat.le_refl _) (by omega);have hsl:=qD7 H64.o h64e (qBO c.items.length f).length (by omega);obtain⟨sm,hsm⟩:=eX (qCZ ws (qBO c.items.length f) (qBO c.items.length f).length);rw[hsm]at hwa hsl;have HSM:Hid (qFi ws c.items.length f=sm):=hZ hsm;have HSL:=hZ hsl;refine⟨trivial,qB7 (hwa.mono ?_)⟩;clear hwa h64e hel hsl hsm hmem mw;rintro e W3 ⟨⟨v3,rfl,hI3⟩,hB3⟩;have HI3:=hZ hI3;have HB3:=hZ hB3;clear hI3 hB3;simp only[]
   repeat (first|go_values|gi_guarded|gi_step|gi_upon)
   have hsg:=qHm v3 sm W3 HI3.o HSL.o;refine⟨trivial,qB7 (hsg.mono ?_)⟩;clear hsg;rintro e W4 ⟨rfl,hB4⟩;have HB4:=hZ (HB3.o.trans (hB4.mono HB3.o.size));clear hB4;simp only[];have hr4:=Hr2.o.below HB4.o Hr2.o.lt;have mr:=hr4.cell;have mf:=hr4.frozen;have HO4:Hid (qAc (fun b=>b=l) W W4):=hZ (HO2.o.trans (qAc.of_below HB4.o));have Hl4:Hid (W4.heap[l]? =some (.loop (rec .busy none))):=hZ ((HB4.o.block _ (Array.getElem?_eq_some_iff.1 Hl2.o).1).trans Hl2.o);have HR4:=hZ hr4;clear hr4;by_cases hs0:sm=0
   ·have q3:(qAV sm 0 != 0)=false:=by rw[(qEp sm).2 hs0];rfl
    obtain⟨cm,hcm⟩:=eX (qAV sm 0);rw[hcm]at q3 ⊢;clear hcm
    repeat (first|go_values|gi_guarded|gi_step|gi_upon)
    clear mr mf;refine⟨Hl4.o,?_⟩;have hOY:=qAo W4 l (.loop (rec .ready none));have hrY:(W4.putObj l (.loop (rec .ready none))).heap[l]? =some (.loop (rec .ready none)):=World.putObj_heap_same (Array.getElem?_eq_some_iff.1 Hl4.o).1;obtain⟨Y,hY⟩:=eX (W4.putObj l (.loop (rec .ready none)));rw[hY]at hOY hrY ⊢;have hS1:qAc (fun b=>b=l) W Y:=HO4.o.trans hOY;refine⟨.inl ⟨rfl,HJ.o.on.trans (hS1.mono (fun b hb=> .inr (.inl hb))),Nat.le_trans hsz hS1.size,hrY,hS1.one HJ.o.r (by omega),fun q x hq hx=> ?_⟩,(qB6 hS1 (fun b hb=>by omega)).keepsT⟩;rcases Nat.lt_or_ge q k with h|h
    ·exact HJ.o.no q x h hx
    ·obtain rfl:q=k:=by omega
     rw[Hk.o]at hx;injection hx with hx;rw[<-hx]
     show qFi ws c.items.length f=0
     rw[HSM.o,hs0]
   ·have q3:(qAV sm 0 != 0)=true:=by simpa using fun h=>hs0 ((qEp sm).1 h)
    obtain⟨cm,hcm⟩:=eX (qAV sm 0);rw[hcm]at q3 ⊢;clear hcm
    repeat (first|go_values|gi_guarded|gi_step|gi_upon)
    clear mr mf;obtain⟨W5,hW5⟩:=eX (W4.setCell ⟨rb,0,none⟩ (.bool false));have hO5:qAc (fun b=>b=rb) W4 W5:=by rw[<-hW5];exact(qAc.refl (fun b=>b=rb) W4).set (p:=⟨rb,0,none⟩) rfl _
    have hr5:One W5 rb 4 (.bool false):=by rw[<-hW5];exact HR4.o.set _
    have hl5:W5.heap[l]? =some (.loop (rec .busy none)):=(hO5.block _ (Array.getElem?_eq_some_iff.1 Hl4.o).1 (by omega)).trans Hl4.o;rw[hW5];refine⟨hl5,?_⟩;have hOY:=qAo W5 l (.loop (rec .done (some .ret)));have hrY:(W5.putObj l (.loop (rec .done (some .ret)))).heap[l]? =some (.loop (rec .done (some .ret))):=World.putObj_heap_same (Array.getElem?_eq_some_iff.1 hl5).1;obtain⟨Y,hY⟩:=eX (W5.putObj l (.loop (rec .done (some .ret))));rw[hY]at hOY hrY ⊢;have hS1:qAc (fun b=>b=rb\/b=l) W Y:=((HO4.o.mono (fun b hb=> .inr hb)).trans (hO5.mono (fun b hb=> .inl hb))).trans (hOY.mono (fun b hb=> .inr hb));refine⟨.inr ⟨rfl,HJ.o.on.trans (hS1.mono (fun b hb=>by omega)),hrY,hOY.one hr5 (by omega),?_⟩,(qB6 hS1 (fun b hb=>by omega)).keepsT⟩;have hmem:(i,f)∈qC4 c:=List.mem_of_getElem? Hk.o;unfold qDd;rw[Bool.and_eq_false_iff]
    right
    rw[List.all_eq_false];exact⟨(i,f),hmem,by simp only[decide_eq_true_eq];rw[HSM.o];exact hs0⟩
  have hE:qR2 n0 l bc w (.slice ai c.items.length ci) (.slice ar c.rules.length cr) c (HoJ Wb c ws rb l n0 rec) (HoX Wb c ws rb l n0 rec):=by
   refine⟨fun k W W' h hb=>h.below (hb.below (Below.refl _ _) h.sz (fun _ hk=>Nat.le_of_eq hk.symm)) (by omega) (by omega),HC.o,by have:=HBE.o.size;have:=HZ.o;omega,fun k W h=>⟨h.sz,?_,h.on.below HBE.o HBE.o.size (fun b hb=>by omega)⟩,by omega,hY⟩;have hx:=HBC.o;have hnb:¬((fun b=>b=rb\/b=l\/n0<=b) bc):=by simp only[];omega
   exact⟨Nat.lt_of_lt_of_le hx.lt h.on.size,(h.on.cell (p:=⟨bc,0,none⟩) hnb hx.lt).trans hx.c0,(h.on.cell (p:=⟨bc,1,none⟩) hnb hx.lt).trans hx.c1,(h.on.cell (p:=⟨bc,2,none⟩) hnb hx.lt).trans hx.c2,(h.on.cell (p:=⟨bc,3,none⟩) hnb hx.lt).trans hx.c3⟩
  have hsq:=qDb (l:=l) (bc:=bc) Wb (by rw[HZ.o];exact hE) HF.o.good HJ0.o;refine(callsIn_wide.2 (by simpa using hsq)).mono ?_;clear hsq hE hY HJ0;rintro e W3 ⟨hv,hE⟩;refine⟨hv,?_⟩;clear hv hrec;rcases hE with hE|hE
  ·refine .inl ⟨hE.rd,?_⟩
   have HHB:Hid (qDd c ws=true):=hZ (by
    unfold qDd;rw[Bool.and_eq_true,decide_eq_true_eq,List.all_eq_true];refine⟨HLE.o,fun x hx=> ?_⟩;obtain⟨q,hq,hqe⟩:=List.mem_iff_getElem.1 hx;rw[decide_eq_true_eq];exact hE.no q x hq (by rw[List.getElem?_eq_getElem hq,hqe]))
   have hO4:=qAo W3 l (.loop (rec .exhausted none));obtain⟨W4,hW4⟩:=eX (W3.putObj l (.loop (rec .exhausted none)));rw[hW4]at hO4 ⊢;have HO4:=hZ (hE.on.trans (hO4.mono (fun b hb=> .inr (.inl hb))));have hr4:=hO4.one hE.r (by omega);have p3:=hr4.cell;have g3:=hr4.frozen;have HR4:=hZ hr4;clear hW4 hO4 hE hr4;simp only[Exit.inBlock,Exit.then]
   repeat (first|go_values|go_step)
   clear p3 g3;obtain⟨X,hX⟩:=eX (W4.setCell ⟨rb,0,none⟩ (.bool true));have hOX:qAc (fun b=>b=rb) W4 X:=by rw[<-hX];exact(qAc.refl (fun b=>b=rb) W4).set (p:=⟨rb,0,none⟩) rfl _
   have hrX:One X rb 4 (.bool true):=by rw[<-hX];exact HR4.o.set _
   rw[hX];have hOX2:=HO4.o.trans (hOX.mono (fun b hb=> .inl hb));have hDX:X.heap[lD]? =some (.deferred (some [])):=(hOX2.block _ (by have:=HZ.o;omega) (by omega)).trans HDb.o;refine⟨by simp,.inl ⟨_,_,rfl,run_takeDeferred hDX,?_⟩⟩;have hO5:=qAo X lD (.deferred none);obtain⟨Y,hY⟩:=eX (X.putObj lD (.deferred none));rw[hY]at hO5 ⊢;have d3:=(hO5.one hrX (by omega)).cell;have hBY:Below w.heap.size w Y:=by
    have h1:qAc (fun b=>b=rb\/b=l\/n0<=b\/b=lD) Wb Y:=(hOX2.mono (fun b hb=>by omega)).trans (hO5.mono (fun b hb=>by omega));exact h1.below HBE.o HBE.o.size (fun b hb=>by omega)
   refine⟨.bool true,by simp[results,Tryz.results15,go_sem,d3],?_,hBY⟩;rw[HHB.o]
  ·refine .inr ⟨hE.rd,?_⟩
   have hO4:=qAo W3 l (.loop (rec .exhausted (some .ret)));obtain⟨W4,hW4⟩:=eX (W3.putObj l (.loop (rec .exhausted (some .ret))));rw[hW4]at hO4 ⊢;have hOX2:=hE.on.trans (hO4.mono (fun b hb=> .inr (.inl hb)));have hr4:=hO4.one hE.r (by omega);simp only[Exit.inBlock,Exit.then];have hDX:W4.heap[lD]? =some (.deferred (some [])):=(hOX2.block _ (by have:=HZ.o;omega) (by omega)).trans HDb.o;refine⟨by simp,.inl ⟨_,_,rfl,run_takeDeferred hDX,?_⟩⟩;have hO5:=qAo W4 lD (.deferred none);obtain⟨Y,hY⟩:=eX (W4.putObj lD (.deferred none));rw[hY]at hO5 ⊢;have d3:=(hO5.one hr4 (by omega)).cell;have hBY:Below w.heap.size w Y:=by
    have h1:qAc (fun b=>b=rb\/b=l\/n0<=b\/b=lD) Wb Y:=(hOX2.mono (fun b hb=>by omega)).trans (hO5.mono (fun b hb=>by omega));exact h1.below HBE.o HBE.o.size (fun b hb=>by omega)
   refine⟨.bool false,by simp[results,Tryz.results15,go_sem,d3],?_,hBY⟩;rw[hE.ex]
 ·have q1:((ws.length:Int) != (c.items.length:Int))=true:=by simp;omega
  have q2:(ws.length != c.items.length)=true:=by simpa using hle
  have HHB:Hid (qDd c ws=false):=hZ (by unfold qDd;rw[decide_eq_false hle];rfl)
  go_wp2_with fail
  obtain⟨X,hX⟩:=eX (w2.setCell ⟨w.heap.size+1+1,0,none⟩ (.bool false));have hrX:One X (w.heap.size+2) 4 (.bool false):=by rw[<-hX];exact HRB.o.set _
  have d3:=hrX.cell;have hBX:Below w.heap.size w X:=by rw[<-hX];exact HB.o.setCell (p:=⟨w.heap.size+1+1,0,none⟩) (show w.heap.size<=w.heap.size+1+1 by omega) _
  rw[hX];refine⟨.bool false,by simp[results,Tryz.results15,go_sem,d3],?_,hBX⟩;rw[HHB.o]
def qPO(w:World)(v:Value)(pk:Nat->Nat->Nat):Prop:=
 ∀W,Below w.heap.size w W->∀(z:Int) (i:Nat) (y:Int) (m:Nat),z=i->y=m->i<=1000->1<=m->m<=1000->
  Calls Tryz.prog 29 #[v,.int .i64 z,.int .i64 y] W fun e w'=>e=.returned (.int .i64 ((pk i m:Nat):Int))/\w'=W
def qQg(zs:List Int)(len i m:Nat):Nat:=(qDI zs len i m).toNat
theorem qMT{v:Value}{zs:List Int}{len:Nat}{w:World}(h:qBW w v zs len):qPO w v (qQg zs len):=by
 intro W hB z i y m hz hy hi h1 h2;subst hz hy;refine(qDs v zs len i m W (h.below (Nat.le_refl _) hB) (by omega) (by omega) (by omega)).mono ?_;rintro e w' ⟨rfl,rfl⟩;have:=qCe zs len i m (by omega);exact⟨by rw[qQg,Int.toNat_of_nonneg this.1],rfl⟩
theorem qHv(zs:List Int)(len:Nat):qJm (qQg zs len):=⟨fun i m hm=>by
 have:=qCe zs len i m (by omega);unfold qQg;omega⟩
theorem qM7(w:World):Calls Tryz.prog 35 #[] w fun e w'=>e=.returned (.slice (some ⟨w.heap.size,0,none⟩) 6 6)/\w'=w.alloc (.cells (qAy.map (fun n=> .string ⟨n.toArray⟩)).toArray 9):=by
 go_enter Tryz.func35,Tryz.ntmps35
 go_wp2_with fail
 go_ret;exact⟨rfl,rfl⟩
theorem qA9(W:World)(g o:Nat)(v:Value):qAc (fun b=>b=g) W (W.setCell ⟨g,o,none⟩ v):=(qAc.refl (fun b=>b=g) W).set (p:=⟨g,o,none⟩) rfl v
theorem qPl(i:Nat)(h:i<7):(dec i).length=1:=by
 have:i=0\/i=1\/i=2\/i=3\/i=4\/i=5\/i=6:=by omega
 rcases this with rfl|rfl|rfl|rfl|rfl|rfl|rfl<;>rfl
theorem qMW{w:World}{b1 b2 e1 e2 k1 k2 n1 n2:Nat}{v1 v2:Value}{xs ys:List Value}(h1:w.ownsRow b1 e1 k1 v1 n1 xs)(h2:w.ownsRow b2 e2 k2 v2 n2 ys)(i:Nat)(hx:i<n1*k1)(hy:i<n2*k2)(hne:xs[i]? ≠ys[i]?)(b:Nat)(hb:v1.ownBlock=some b):v2.ownBlock≠some b:=by
 intro hb2;rcases h1.2 with ⟨hv,_⟩|⟨g,cap,cur,hv,_,hh,_,_,_,ht⟩
 ·rw[hv]at hb;cases hb
 ·rcases h2.2 with ⟨hv2,_⟩|⟨g2,cap2,cur2,hv2,_,hh2,_,_,_,ht2⟩
  ·rw[hv2]at hb2;cases hb2
  ·rw[hv]at hb
   rw[hv2]at hb2;cases hb;cases hb2;rw[hh]at hh2;injection hh2 with hh2;injection hh2 with hc _ _;subst hc;apply hne;rw[<-ht,<-ht2,List.getElem?_take,List.getElem?_take,if_pos hx,if_pos hy]
def nmV(n:Tx):Value:=.string ⟨n.toArray⟩
theorem qCR:qEv Tryz.prog 23 61 7 48:=qEv.mk (z:=.agg #[.string ⟨#[]⟩,.bool false,.bool false,.bool false,.int .i64 0,.int .i64 0,.int .i64 0]) Tryz.underlying23 (by kernel_rfl) rfl (by decide)
theorem qDC:qEv Tryz.prog 24 54 9 128:=qEv.mk (z:=.agg #[.string ⟨#[]⟩,.bool false,.int .i64 0,.int .i64 0,.int .i64 0,.int .i64 0,.slice none 0 0,.slice none 0 0,.slice none 0 0]) Tryz.underlying24 (by kernel_rfl) rfl (by decide)
section
variable {pk:Nat->Nat->Nat}{bal:Bool}{n i how:Nat}
theorem qQE(h:pk (11+5*i) 10=9):qCh pk bal n i=⟨ruleTx i,true,0,1,[],qCz pk bal n i (gK pk i),[]⟩:=by
 unfold qCh;simp[h]
theorem qO4(h:pk (11+5*i) 10=how)(h3:how<3)(hb:bal=true\/how=0):qCh pk bal n i=⟨ruleTx i,false,0,2,qCv pk bal n i (gK pk i),qCz pk bal n i (gK pk i),qCv pk bal n i (gK pk i)⟩:=by
 unfold qCh;simp only[h];rw[if_neg (by omega),if_pos h3,if_pos ⟨h3,hb⟩]
theorem qNz(h:pk (11+5*i) 10=how)(h3:how<3)(hb:¬(bal=true\/how=0)):qCh pk bal n i=⟨ruleTx i,false,0,2,qCv pk bal n i (gK pk i),qCz pk bal n i (gK pk i),[]⟩:=by
 unfold qCh;simp only[h];rw[if_neg (by omega),if_pos h3,if_neg (fun h=>hb h.2)]
theorem qO5(h:pk (11+5*i) 10=how)(h3:¬how<3)(h9:how≠9):qCh pk bal n i=⟨ruleTx i,false,0,1,qCv pk bal n i (gK pk i),qCz pk bal n i (gK pk i),[]⟩:=by
 unfold qCh;simp only[h];rw[if_neg h9,if_neg h3,if_neg (fun h=>h3 h.1)]
end
structure G1(w W:World)(pk:Nat->Nat->Nat)(i k:Nat)(vI vW:Value):Prop where
 b:Below w.heap.size w W
 y:qAf W w.heap.size 28 [.slice none 0 0,.slice none 0 0,.slice none 0 0,.slice none 0 0]
 x:qAf W (w.heap.size+1) 28 [vI,.slice none 0 0,.slice none 0 0,.slice none 0 0]
 it:W.ownsRow (w.heap.size+2) 61 7 vI i ((qAy.take i).flatMap qBF)
 wt:W.ownsRow (w.heap.size+2) 3 1 vW k ((List.range k).map (fun j=>zv (qJr pk j)))
 zi:i=0->vI.ownBlock=none
 zk:k=0->vW.ownBlock=none
section
variable {w W W':World}{pk:Nat->Nat->Nat}{bal:Bool}{i k n:Nat}{vI vW vR:Value}{S:Nat->Prop}
theorem G1.sz(h:G1 w W pk i k vI vW):w.heap.size+2<=W.heap.size:=h.x.lt
theorem G1.apart(h:G1 w W pk i k vI vW)(b:Nat)(hb:vI.ownBlock=some b):vW.ownBlock≠some b:=by
 rcases Nat.eq_zero_or_pos i with h0|h0
 ·rw[h.zi h0]at hb;cases hb
 ·rcases Nat.eq_zero_or_pos k with k0|k0
  ·rw[h.zk k0];simp
  ·refine qMW h.it h.wt 0 (by omega) (by omega) ?_ b hb
   obtain⟨i,rfl⟩:∃j,i=j+1:=⟨i-1,by omega⟩;obtain⟨k,rfl⟩:∃j,k=j+1:=⟨k-1,by omega⟩;simp[qAy,qBF,List.range_succ_eq_map,zv]
theorem G1.only(h:G1 w W pk i k vI vW)(ho:qAc S W W')(hS:∀b,S b->w.heap.size+2<=b)(h1:∀b,vI.ownBlock=some b->¬S b)(h2:∀b,vW.ownBlock=some b->¬S b):G1 w W' pk i k vI vW:=
 ⟨ho.below h.b h.b.size (fun k hk=>by have:=hS k hk;omega),h.y.only ho (fun hs=>by have:=hS _ hs;omega),h.x.only ho (fun hs=>by have:=hS _ hs;omega),ho.own h.it h1,ho.own h.wt h2,h.zi,h.zk⟩
theorem G1.below(h:G1 w W pk i k vI vW)(hb:Below W.heap.size W W'):G1 w W' pk i k vI vW:=h.only (S:=fun _=>False) (qAc.of_below hb) (fun _ h=>h.elim) (fun _ _ h=>h) (fun _ _ h=>h)
theorem qGH(i:Nat)(hi:i<6)(nm:Tx)(h:qAy[i]? =some nm):(qAy.take (i+1)).flatMap qBF=(qAy.take i).flatMap qBF++qBF nm:=by
 rw[List.take_add_one,h];simp
theorem G1.items(h:G1 w W pk i k vI vW){g cap:Nat}{nm:Tx}(hi:i<6)(hnm:qAy[i]? =some nm)(ho:qAc (fun b=>vI.ownBlock=some b) W W')
 (hr:W'.ownsRow (w.heap.size+2) 61 7 (.slice (some ⟨g,0,none⟩) (i+1) cap) (i+1) ((qAy.take i).flatMap qBF++qBF nm)):
 G1 w (W'.setCell ⟨w.heap.size+1,0,none⟩ (.slice (some ⟨g,0,none⟩) (i+1) cap)) pk (i+1) k (.slice (some ⟨g,0,none⟩) (i+1) cap) vW:=by
 have h':=h.only ho (fun b hb=>(h.it.lt b hb).1);have hx:qAf W' (w.heap.size+1) 28 [vI,.slice none 0 0,.slice none 0 0,.slice none 0 0]:=h.x.only ho (fun hs=>by have:=(h.it.lt _ hs).1;omega);have hO:qAc (fun b=>b=w.heap.size+1) W' (W'.setCell ⟨w.heap.size+1,0,none⟩ (.slice (some ⟨g,0,none⟩) (i+1) cap)):=qA9 _ _ _ _;have hb':=ho.below h.b h.b.size (fun k hk=>by have:=(h.it.lt k hk).1;omega);refine⟨hO.below hb' hb'.size (fun k hk=>by omega),?_,?_,?_,?_,by omega,h.zk⟩
 ·exact(h.y.only ho (fun hs=>by have:=(h.it.lt _ hs).1;omega)).only hO (by omega)
 ·exact hx.set 0 _
 ·rw[qGH i hi nm hnm]
  exact hO.own hr (fun b hb=>by have:=(hr.lt b hb).1;omega)
 ·exact hO.own (ho.own h.wt (fun b hb hs=>h.apart b hs hb)) (fun b hb=>by have:=(h.wt.lt b hb).1;omega)
theorem G1.weights(h:G1 w W pk i k vI vW){g cap:Nat}(ho:qAc (fun b=>vW.ownBlock=some b) W W')
 (hr:W'.ownsRow (w.heap.size+2) 3 1 (.slice (some ⟨g,0,none⟩) (k+1) cap) (k+1) ((List.range k).map (fun j=>zv (qJr pk j))++[.int .i64 (1+(pk (1+k) 4:Int))])):
 G1 w W' pk i (k+1) vI (.slice (some ⟨g,0,none⟩) (k+1) cap):=by
 refine⟨ho.below h.b h.b.size (fun k hk=>by have:=(h.wt.lt k hk).1;omega),h.y.only ho (fun hs=>by have:=(h.wt.lt _ hs).1;omega),h.x.only ho (fun hs=>by have:=(h.wt.lt _ hs).1;omega),ho.own h.it (fun b hb hs=>h.apart b hb hs),?_,h.zi,by omega⟩;rw[List.range_succ,List.map_append];simpa[zv,qJr]using hr
def qMc(W:World)(b:Nat):Prop:=∃s z,W.cell? ⟨b,0,none⟩=some (.string s)/\W.cell? ⟨b,2,none⟩=some (zv z)
theorem qAb.onlyS{α:Type}{k:Nat}{R:World->α->List Value->Prop}{v:Value}{xs:List α}(h:qAb k R W v xs)(ho:qAc S W W')(hd:∀b,S b->∀x cs,R W x cs->∃i,i<k/\W.cell? ⟨b,i,none⟩≠cs[i]?)
 (hR:∀x cs,R W x cs->R W' x cs):qAb k R W' v xs:=by
 obtain⟨a,cap,hv,h1,h2,hc⟩:=h;refine⟨a,cap,hv,h1,h2,fun h0=> ?_⟩;obtain⟨b,ha,hlt,hcc⟩:=hc h0;have hS:¬S b:=by
  intro hs;obtain⟨cs,hr,_,hcl⟩:=hcc 0 h0;obtain⟨i,hi,hne⟩:=hd b hs _ _ hr;apply hne;have:=hcl i hi
  rwa [Nat.zero_mul,Nat.zero_add]at this
 refine⟨b,ha,Nat.lt_of_lt_of_le hlt ho.size,fun j hj=> ?_⟩;obtain⟨cs,hr,hl,hcl⟩:=hcc j hj;exact⟨cs,hR _ _ hr,hl,fun i hi=>(ho.cell (p:=⟨b,j*k+i,none⟩) hS hlt).trans (hcl i hi)⟩
theorem qAl.onlyS{v:Value}{l:List Amt}(h:qAl W v l)(ho:qAc S W W')(hS:∀b,S b->qMc W b):qAl W' v l:=by
 refine qAb.onlyS h ho (fun b hb x cs hc=>⟨0,by omega,?_⟩) (fun _ _ h=>h);obtain⟨s,z,h0,_⟩:=hS b hb;subst hc;rw[h0];simp[qFa,zv]
theorem qAg.onlyS{v:Value}{l:List Int}(h:qAg W v l)(ho:qAc S W W')(hS:∀b,S b->qMc W b):qAg W' v l:=by
 refine qAb.onlyS h ho (fun b hb x cs hc=>⟨0,by omega,?_⟩) (fun _ _ h=>h);obtain⟨s,z,h0,_⟩:=hS b hb;subst hc;rw[h0];simp[zv]
theorem qAL.onlyS{v:Value}{l:List Tx}(h:qAL W v l)(ho:qAc S W W')(hS:∀b,S b->qMc W b):qAL W' v l:=by
 refine qAb.onlyS h ho (fun b hb x cs hc=>⟨2,by omega,?_⟩) (fun _ _ h=>h);obtain⟨s,z,_,h0⟩:=hS b hb;subst hc;rw[h0];simp[qBF,zv]
theorem qDJ.onlyS{r:Rul}{cs:List Value}(h:qDJ W r cs)(ho:qAc S W W')(hS:∀b,S b->qMc W b):qDJ W' r cs:=by
 obtain⟨vt,vg,vb,h1,h2,h3,h4⟩:=h;exact⟨vt,vg,vb,h1,h2.onlyS ho hS,h3.onlyS ho hS,h4.onlyS ho hS⟩
structure GI(w W:World)(pk:Nat->Nat->Nat)(bal:Bool)(n i:Nat)(vI vW vR:Value):Prop where
 b:Below w.heap.size w W
 y:qAf W w.heap.size 28 [.slice none 0 0,.slice none 0 0,.slice none 0 0,.slice none 0 0]
 x:qAf W (w.heap.size+1) 28 [vI,vR,.slice none 0 0,.slice none 0 0]
 it:qAL W vI (qAy.take n)
 wt:qAg W vW ((List.range n).map (fun j=>((qJr pk j:Nat):Int)))
 rl:∃css:List (List Value),css.length=i/\(∀cs∈css,cs.length=9)/\W.ownsRow (w.heap.size+2) 54 9 vR i css.flatten/\∀j (h:j<css.length),qDJ W (qCh pk bal n j) css[j]
 z:i=0->vR.ownBlock=none
theorem qCp{base:Nat}{e:TypeId}{v:Value}{l:List Tx}(h:W.ownsRow base e 7 v l.length (l.flatMap qBF)):qAL W v l:=by
 refine qAb.of_own (css:=l.map qBF) (base:=base) (e:=e) (by rw[List.length_map,<-List.flatMap_def];exact h) (by simp[qBF]) (by simp) ?_;intro j h1 h2;simp
theorem G1.gi(h:G1 w W pk n n vI vW)(hn:n<=6):GI w W pk bal n 0 vI vW (.slice none 0 0):=by
 refine⟨h.b,h.y,h.x,?_,?_,⟨[],rfl,by simp,World.ownsRow_nil _ _ _ _,fun j hj=>by simp at hj⟩,fun _=>rfl⟩
 ·have hl:(qAy.take n).length=n:=by rw[List.length_take];simp[qAy];omega
  have:=h.it;exact qCp (base:=w.heap.size+2) (e:=61) (by rw[hl];exact this)
 ·have:=h.wt
  exact qF2 (base:=w.heap.size+2) (e:=3) (by rw[List.length_map,List.length_range,List.map_map];exact this)
theorem GI.sz(h:GI w W pk bal n i vI vW vR):w.heap.size+2<=W.heap.size:=h.x.lt
theorem GI.wcell{bw cw:Nat}(h:GI w W pk bal n i vI (.slice (some ⟨bw,0,none⟩) n cw) vR)(j:Nat)(hj:j<n):W.cell? ⟨bw,j,none⟩=some (.int .i64 ((qJr pk j:Nat):Int)):=by
 obtain⟨b,cap,cs,hv,hb,rfl,_,hc⟩:=qAb.at_ h.wt j (by simpa using hj);injection hv with e1 _ _;injection e1 with e1;injection e1 with e1;subst e1;have:=hc 0 (by omega);simpa[zv]using this
theorem GI.row(h:GI w W pk bal n i vI vW vR)(b:Nat)(hb:vR.ownBlock=some b):w.heap.size+2<=b/\qMc W b/\b<W.heap.size:=by
 obtain⟨css,hl,h9,ho,hr⟩:=h.rl;have h1:=ho.lt b hb;refine⟨h1.1,?_,h1.2⟩;have hi:0<i:=by
  rcases Nat.eq_zero_or_pos i with h0|h0
  ·rw[h.z h0]at hb;cases hb
  ·exact h0
 obtain⟨vt,vg,vb,hc,_⟩:=hr 0 (by omega);rcases ho.2 with ⟨hv,_⟩|⟨g,cap,cur,hv,_,hh,_,_,hs,ht⟩
 ·rw[hv]at hb;cases hb
 ·rw[hv]at hb
  cases hb
  have hcell:∀q,q<9->W.cell? ⟨g,q,none⟩=(qP9 (qCh pk bal n 0) vt vg vb)[q]? :=by
   intro q hq;rw[cell_of_row W g q _ _ (0,0) hh,<-hc,<-qCA css 9 0 q h9 (by omega) hq,Nat.zero_mul,Nat.zero_add,<-ht,List.getElem?_take,if_pos (by omega),Array.getElem?_toList]
  exact⟨_,_,hcell 0 (by omega),hcell 2 (by omega)⟩
theorem GI.only(h:GI w W pk bal n i vI vW vR)(ho:qAc S W W')(hS:∀b,S b->w.heap.size+2<=b/\qMc W b/\vR.ownBlock≠some b):GI w W' pk bal n i vI vW vR:=by
 have hs2:∀b,S b->qMc W b:=fun b hb=>(hS b hb).2.1;refine⟨ho.below h.b h.b.size (fun k hk=>by have:=(hS k hk).1;omega),h.y.only ho (fun hs=>by have:=(hS _ hs).1;omega),h.x.only ho (fun hs=>by have:=(hS _ hs).1;omega),h.it.onlyS ho hs2,h.wt.onlyS ho hs2,?_,h.z⟩;obtain⟨css,hl,h9,hw,hr⟩:=h.rl;exact⟨css,hl,h9,ho.own hw (fun b hb hs=>(hS b hs).2.2 hb),fun j hj=>(hr j hj).onlyS ho hs2⟩
theorem GI.below(h:GI w W pk bal n i vI vW vR)(hb:Below W.heap.size W W'):GI w W' pk bal n i vI vW vR:=h.only (S:=fun _=>False) (qAc.of_below hb) (fun _ h=>h.elim)
theorem GI.grow(h:GI w W pk bal n i vI vW vR){g cap:Nat}{cs:List Value}{css:List (List Value)}(hl:css.length=i)(h9:∀cs∈css,cs.length=9)(hrr:∀j (h:j<css.length),qDJ W (qCh pk bal n j) css[j])(hc:qDJ W (qCh pk bal n i) cs)(hc9:cs.length=9)(ho:qAc (fun b=>vR.ownBlock=some b) W W')
 (hr':W'.ownsRow (w.heap.size+2) 54 9 (.slice (some ⟨g,0,none⟩) (i+1) cap) (i+1) (css.flatten++cs)):
 GI w (W'.setCell ⟨w.heap.size+1,1,none⟩ (.slice (some ⟨g,0,none⟩) (i+1) cap)) pk bal n (i+1) vI vW (.slice (some ⟨g,0,none⟩) (i+1) cap):=by
 have hs2:∀b,vR.ownBlock=some b->qMc W b:=fun b hb=>(h.row b hb).2.1;have hO:qAc (fun b=>b=w.heap.size+1) W' (W'.setCell ⟨w.heap.size+1,1,none⟩ (.slice (some ⟨g,0,none⟩) (i+1) cap)):=qA9 _ _ _ _;have hx:qAf W' (w.heap.size+1) 28 [vI,vR,.slice none 0 0,.slice none 0 0]:=h.x.only ho (fun hs=>by have:=(h.row _ hs).1;omega);have hb':=ho.below h.b h.b.size (fun k hk=>by have:=(h.row k hk).1;omega);have hne:∀(x:Addr),W'.cell? ⟨w.heap.size+1,0,none⟩=some vI:=fun _=>hx.cell 0;obtain⟨ai,ni,hvi,_⟩:=h.it.form;obtain⟨aw,nw,hvw,_⟩:=h.wt.form;have hbx:∀b,b=w.heap.size+1->W'.cell? ⟨b,0,none⟩=some vI/\W'.cell? ⟨b,2,none⟩=some (.slice none 0 0):=fun b hb=>by subst hb;exact⟨hx.cell 0,hx.cell 2⟩
 have hA:∀v l,qAl W' v l->qAl (W'.setCell ⟨w.heap.size+1,1,none⟩ (.slice (some ⟨g,0,none⟩) (i+1) cap)) v l:=fun v l ha=>qAb.onlyS ha hO (fun b hb x cs hc=>⟨0,by omega,by rw[(hbx b hb).1,hc,hvi];simp[qFa,zv]⟩) (fun _ _ h=>h);refine⟨hO.below hb' hb'.size (fun k hk=>by omega),(h.y.only ho (fun hs=>by have:=(h.row _ hs).1;omega)).only hO (by omega),hx.set 1 _,?_,?_,⟨css++[cs],by simp[hl],?_,?_,?_⟩,by omega⟩
 ·exact qAb.onlyS (h.it.onlyS ho hs2) hO (fun b hb x cs hc=>⟨2,by omega,by rw[(hbx b hb).2,hc];simp[qBF]⟩) (fun _ _ h=>h)
 ·exact qAb.onlyS (h.wt.onlyS ho hs2) hO (fun b hb x cs hc=>⟨0,by omega,by rw[(hbx b hb).1,hc,hvi];simp[zv]⟩) (fun _ _ h=>h)
 ·intro c hc
  rcases List.mem_append.1 hc with hc|hc
  ·exact h9 c hc
  ·rw[List.mem_singleton.1 hc];exact hc9
 ·rw[List.flatten_append,List.flatten_singleton]
  exact hO.own hr' (fun b hb=>by have:=(hr'.lt b hb).1;omega)
 ·intro j hj
  have hR:∀r cs,qDJ W r cs->qDJ (W'.setCell ⟨w.heap.size+1,1,none⟩ (.slice (some ⟨g,0,none⟩) (i+1) cap)) r cs:=by
   intro r cs hr;obtain⟨vt,vg,vb,e1,e2,e3,e4⟩:=hr.onlyS ho hs2;exact⟨vt,vg,vb,e1,hA _ _ e2,hA _ _ e3,hA _ _ e4⟩
  rcases Nat.lt_or_ge j css.length with h1|h1
  ·rw[List.getElem_append_left h1]
   exact hR _ _ (hrr j h1)
  ·obtain rfl:j=i:=by simp at hj;omega
   rw[List.getElem_append_right h1];simp only[hl,Nat.sub_self,List.getElem_cons_zero];exact hR _ _ hc
structure GR(w W:World)(pk:Nat->Nat->Nat)(bal:Bool)(n i:Nat)(vI vW vR:Value)(g:Nat)(vt vg:Value)(lt lg:List Amt):Prop where
 gi:GI w W pk bal n i vI vW vR
 r:qAf W g 54 [nmV (ruleTx i),.bool false,.int .i64 0,.int .i64 0,.int .i64 1,.int .i64 1,vt,vg,.slice none 0 0]
 hg:w.heap.size+2<=g
 ap:vR.ownBlock≠some g
 t:qAl W vt lt
 g_:qAl W vg lg
variable {g:Nat}{vt vg:Value}{lt lg:List Amt}
theorem GR.below(h:GR w W pk bal n i vI vW vR g vt vg lt lg)(hb:Below W.heap.size W W'):GR w W' pk bal n i vI vW vR g vt vg lt lg:=
 ⟨h.gi.below hb,h.r.below hb h.r.lt,h.hg,h.ap,h.t.below hb,h.g_.below hb⟩
theorem qLR{pk:Nat->Nat->Nat}(hp:qJm pk)(bal:Bool)(n i k:Nat)(hn:0<n)(hk:k<=2):(qCv pk bal n i k).length<=1000/\∀a∈qCv pk bal n i k,a.n<=1000000:=by
 have h:=qDz (bal:=bal) hp n i hn k;exact⟨by have:=h.len;omega,fun a ha=>by have:=(h.all a ha).2.2;omega⟩
theorem qLT{pk:Nat->Nat->Nat}(hp:qJm pk)(bal:Bool)(n i k:Nat)(hn:0<n)(hk:k<=2):(qCz pk bal n i k).length<=1000/\∀a∈qCz pk bal n i k,a.n<=1000000:=by
 have h:=qDA (bal:=bal) hp n i hn k;exact⟨by have:=h.len;omega,fun a ha=>by have:=(h.all a ha).2.2;omega⟩
theorem GR.str(h:GR w W pk bal n i vI vW vR g vt vg lt lg):qMc W g:=⟨_,0,h.r.cell 0,h.r.cell 2⟩
theorem GR.setT(h:GR w W pk bal n i vI vW vR g vt vg lt lg){v':Value}{l':List Amt}(hv:qAl W v' l'):GR w (W.setCell ⟨g,6,none⟩ v') pk bal n i vI vW vR g v' vg l' lg:=by
 have hO:qAc (fun b=>b=g) W (W.setCell ⟨g,6,none⟩ v'):=qA9 _ _ _ _;have hs:∀b,b=g->qMc W b:=fun b hb=>by subst hb;exact h.str
 exact⟨h.gi.only hO (fun b hb=>by subst hb;exact⟨h.hg,h.str,h.ap⟩),h.r.set 6 _,h.hg,h.ap,hv.onlyS hO hs,h.g_.onlyS hO hs⟩
theorem GR.setG(h:GR w W pk bal n i vI vW vR g vt vg lt lg){v':Value}{l':List Amt}(hv:qAl W v' l'):GR w (W.setCell ⟨g,7,none⟩ v') pk bal n i vI vW vR g vt v' lt l':=by
 have hO:qAc (fun b=>b=g) W (W.setCell ⟨g,7,none⟩ v'):=qA9 _ _ _ _;have hs:∀b,b=g->qMc W b:=fun b hb=>by subst hb;exact h.str
 exact⟨h.gi.only hO (fun b hb=>by subst hb;exact⟨h.hg,h.str,h.ap⟩),h.r.set 7 _,h.hg,h.ap,h.t.onlyS hO hs,hv.onlyS hO hs⟩
theorem GR.any(h:GR w W pk bal n i vI vW vR g vt vg lt lg)(hO:qAc (fun b=>b=g) W W'):GI w W' pk bal n i vI vW vR/\qAl W' vt lt/\qAl W' vg lg:=by
 have hs:∀b,b=g->qMc W b:=fun b hb=>by subst hb;exact h.str
 exact⟨h.gi.only hO (fun b hb=>by subst hb;exact⟨h.hg,h.str,h.ap⟩),h.t.onlyS hO hs,h.g_.onlyS hO hs⟩
theorem GI.cat(h:GI w W pk bal n i vI vW vR)(hn:qLQ pk=n)(hi:i=pk 7 7)(ho:qAc (fun b=>b=w.heap.size) W W'):qAS W' vI vR (qBA pk bal):=by
 have hbx:∀b,b=w.heap.size->W.cell? ⟨b,0,none⟩=some (.slice none 0 0)/\W.cell? ⟨b,2,none⟩=some (.slice none 0 0):=fun b hb=>by subst hb;exact⟨h.y.cell 0,h.y.cell 2⟩
 have hA:∀v l,qAl W v l->qAl W' v l:=fun v l ha=>qAb.onlyS ha ho (fun b hb x cs hc=>⟨0,by omega,by rw[(hbx b hb).1,hc];simp[qFa,zv]⟩) (fun _ _ h=>h);refine⟨?_,?_⟩
 ·have:=qAb.onlyS h.it ho (fun b hb x cs hc=>⟨0,by omega,by rw[(hbx b hb).1,hc];simp[qBF]⟩) (fun _ _ h=>h)
  rw[<-hn]at this;exact this
 ·obtain⟨css,hl,h9,hw,hr⟩:=h.rl
  have hw':=ho.own hw (fun b hb=>by have:=(hw.lt b hb).1;omega);subst hn hi;refine qAb.of_own (css:=css) (base:=w.heap.size+2) (e:=54) (by rw[hl];exact hw') h9 (by simp[qBA,hl]) ?_;intro j h1 h2;have hj:(qBA pk bal).rules[j]=qCh pk bal (qLQ pk) j:=by simp[qBA]
  rw[hj];obtain⟨vt,vg,vb,e1,e2,e3,e4⟩:=hr j h2;exact⟨vt,vg,vb,e1,hA _ _ e2,hA _ _ e3,hA _ _ e4⟩
end
end Go.Proofs.YtkjhlkngihponaaGreatDoor
