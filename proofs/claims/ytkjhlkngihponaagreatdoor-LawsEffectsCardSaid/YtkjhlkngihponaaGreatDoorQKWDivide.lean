/- wide: divide, its short way. -/
import Derived.Test.YtkjhlkngihponaaGreatDoorQKWDivS
import Derived.Test.YtkjhlkngihponaaGreatDoorQKStr
import Derived.Test.YtkjhlkngihponaaGreatDoorProg
import Derived.Deep.AppendLies
import Derived.WalkKit
import Derived.WalkSpells
import Derived.WalkLawsBesides
import Derived.Deep.RegionHeld3
import Derived.Lib.Hide
import Derived.Maps.AppendAt
import Derived.Scope
set_option linter.unusedVariables false
set_option linter.unusedSimpArgs false
set_option maxHeartbeats 4000000
set_option maxRecDepth 100000
namespace Go.Proofs.YtkjhlkngihponaaGreatDoor

structure Amt where
 item:Nat
 n:Nat
structure Rul where
 name:Tx
 spawn:Bool
 time:Nat
 of_:Nat
 take:List Amt
 give:List Amt
 back:List Amt
structure Cat where
 items:List Tx
 rules:List Rul
def ofI(l:List Amt)(i:Nat):Nat:=((l.filter (fun a=>a.item==i)).map (·.n)).sum
theorem qEd(x:Amt)(l:List Amt)(i:Nat):ofI (x::l) i=(if x.item=i then x.n else 0)+ofI l i:=by
 unfold ofI;by_cases h:x.item=i<;>simp[List.filter_cons,h]
theorem qAR(i:Nat):ofI [] i=0:=rfl
theorem qB5(a b:List Amt)(i:Nat):ofI (a++b) i=ofI a i+ofI b i:=by simp[ofI]
def qDL(it k:Nat):Bool->List Amt->List Amt
 |d,[]=>if d then []else [⟨it,k⟩]
 |d,x::r=>if x.item=it then ⟨it,x.n+k⟩::qDL it k true r
  else if it<x.item/\d=false then ⟨it,k⟩::x::qDL it k true r
  else x::qDL it k d r
def qMP(l:List Amt)(it k:Nat):List Amt:=qDL it k false l
def qEW(l:List Amt):Prop:=l.Pairwise (fun a b=>a.item<b.item)
structure qAM(n M K:Nat)(l:List Amt):Prop where
 sorted:qEW l
 all:∀a∈l,a.item<n/\1<=a.n/\a.n<=M
 len:l.length<=K
theorem qFL(it k:Nat):∀l:List Amt,(∀a∈l,it<a.item)->qDL it k true l=l
 |[],_=>rfl
 |x::r,h=>by
  have hx:=h x (by simp);rw[qDL,if_neg (by omega),if_neg (by simp),qFL it k r (fun a ha=>h a (by simp[ha]))]
theorem qKE(it k:Nat):∀l:List Amt,∀a∈qDL it k false l,a∈l\/(a.item=it/\(a.n=k\/ ∃x∈l,a.n=x.n+k)):=by
 intro l
 induction l with
 |nil=>intro a ha;simp[qDL]at ha;subst ha;exact .inr ⟨rfl,.inl rfl⟩
 |cons x r ih=>
  have ht:∀(r:List Amt),∀a∈qDL it k true r,a∈r\/(a.item=it/\∃x∈r,a.n=x.n+k):=by
   intro r
   induction r with
   |nil=>intro a ha;simp[qDL]at ha
   |cons y r ih2=>
    intro a ha;rw[qDL]at ha
    split at ha
    ·rcases List.mem_cons.1 ha with rfl|ha
     ·exact .inr ⟨rfl,y,by simp,rfl⟩
     ·rcases ih2 a ha with h|⟨h,z,hz,hn⟩
      ·exact .inl (by simp[h])
      ·exact .inr ⟨h,z,by simp[hz],hn⟩
    ·rw[if_neg (by simp)]at ha
     rcases List.mem_cons.1 ha with rfl|ha
     ·exact .inl (by simp)
     ·rcases ih2 a ha with h|⟨h,z,hz,hn⟩
      ·exact .inl (by simp[h])
      ·exact .inr ⟨h,z,by simp[hz],hn⟩
  intro a ha;rw[qDL]at ha
  split at ha
  ·rcases List.mem_cons.1 ha with rfl|ha
   ·exact .inr ⟨rfl,.inr ⟨x,by simp,rfl⟩⟩
   ·rcases ht r a ha with h|⟨h,z,hz,hn⟩
    ·exact .inl (by simp[h])
    ·exact .inr ⟨h,.inr ⟨z,by simp[hz],hn⟩⟩
  ·split at ha
   ·rcases List.mem_cons.1 ha with rfl|ha
    ·exact .inr ⟨rfl,.inl rfl⟩
    ·rcases List.mem_cons.1 ha with rfl|ha
     ·exact .inl (by simp)
     ·rcases ht r a ha with h|⟨h,z,hz,hn⟩
      ·exact .inl (by simp[h])
      ·exact .inr ⟨h,.inr ⟨z,by simp[hz],hn⟩⟩
   ·rcases List.mem_cons.1 ha with rfl|ha
    ·exact .inl (by simp)
    ·rcases ih a ha with h|⟨h,h2|⟨z,hz,hn⟩⟩
     ·exact .inl (by simp[h])
     ·exact .inr ⟨h,.inl h2⟩
     ·exact .inr ⟨h,.inr ⟨z,by simp[hz],hn⟩⟩
theorem qJG(it k:Nat):∀l:List Amt,qEW l->qEW (qDL it k false l):=by
 intro l
 induction l with
 |nil=>intro _;simp[qDL,qEW]
 |cons x r ih=>
  intro h;have h':=List.pairwise_cons.1 h;rw[qDL]
  split
  ·next e=>
   rw[qFL it k r (fun a ha=>by have:=h'.1 a ha;omega)];exact List.pairwise_cons.2 ⟨fun a ha=>by have:=h'.1 a ha;show it<a.item;omega,h'.2⟩
  ·split
   ·next e1 e2=>
    rw[qFL it k r (fun a ha=>by have:=h'.1 a ha;omega)];refine List.pairwise_cons.2 ⟨fun a ha=> ?_,h⟩
    show it<a.item
    rcases List.mem_cons.1 ha with rfl|ha
    ·exact e2.1
    ·have:=h'.1 a ha;omega
   ·next e1 e2=>
    refine List.pairwise_cons.2 ⟨fun a ha=> ?_,ih h'.2⟩;rcases qKE it k r a ha with h5|⟨h5,_⟩
    ·exact h'.1 a h5
    ·rw[h5]
     have:¬it<x.item:=fun h9=>e2 ⟨h9,rfl⟩;omega
theorem qKF(it k:Nat):∀(l:List Amt),(∀d,(qDL it k d l).length<=l.length+1)/\(qDL it k true l).length<=l.length
 |[]=>⟨fun d=>by cases d<;>simp[qDL],by simp[qDL]⟩
 |x::r=>by
  have ih:=qKF it k r;refine⟨fun d=> ?_,?_⟩
  ·rw[qDL]
   split
   ·have:=ih.2;simp;omega
   ·split
    ·have:=ih.2;simp;omega
    ·have:=ih.1 d;simp;omega
  ·rw[qDL]
   split
   ·have:=ih.2;simp;omega
   ·rw[if_neg (by simp)]
    have:=ih.2;simp;omega
theorem qQc(it k:Nat)(l:List Amt):qDL it k false l≠[]:=by
 cases l with
 |nil=>simp[qDL]
 |cons x r=>rw[qDL];split<;>(try split)<;>simp
theorem qIu{n M K it k:Nat}{l:List Amt}(h:qAM n M K l)(hi:it<n)(hk:1<=k):qAM n (M+k) (K+1) (qMP l it k):=by
 refine⟨qJG it k l h.sorted,fun a ha=> ?_,by have:=(qKF it k l).1 false;have:=h.len;unfold qMP;omega⟩;rcases qKE it k l a ha with h5|⟨h5,h6|⟨x,hx,h6⟩⟩
 ·have:=h.all a h5;omega
 ·omega
 ·have:=h.all x hx;omega
theorem qAM.mono{n M M' K K':Nat}{l:List Amt}(h:qAM n M K l)(hM:M<=M')(hK:K<=K'):qAM n M' K' l:=
 ⟨h.sorted,fun a ha=>by have:=h.all a ha;omega,by have:=h.len;omega⟩
theorem qAM.nil(n M K:Nat):qAM n M K []:=⟨List.Pairwise.nil,(fun _ h=>by cases h),by simp⟩
structure qD2(n:Nat)(r:Rul):Prop where
 take:qAM n 1000 2 r.take
 give:qAM n 1000 2 r.give
 back:qAM n 1000 2 r.back
 of1:1<=r.of_
 of2:r.of_<=2
 time:r.time<=1
 hasBack:r.back≠[]->r.of_=2
 spawn:r.spawn=true->r.take=[]/\r.back=[]/\r.time=0/\r.of_=1
 player:r.spawn=false->r.take≠[]\/r.time=1
 within:r.back=[]\/r.back=r.take
structure qHf(c:Cat):Prop where
 items:c.items.length<=6
 some_:1<=c.items.length
 rules:c.rules.length<=22
 each:∀r∈c.rules,qD2 c.items.length r
def qAy:List Tx:=[[111,114,101],[98,97,114],[99,111,105,110],[119,111,111,100],[103,101,109],[100,117,115,116]]
def ruleTx(i:Nat):Tx:=[114,117,108,101]++dec i
structure qJm(pk:Nat->Nat->Nat):Prop where
 lt:∀i m,0<m->pk i m<m
section
variable (pk:Nat->Nat->Nat)(bal:Bool)
def qLQ:Nat:=1+pk 0 5
def qJr(i:Nat):Nat:=1+pk (1+i) 4
def gBy(i k:Nat):Nat:=1+pk (9+5*i+2*k) 30/10
def gA(n i k:Nat):Nat:=pk (9+5*i+2*k) n
def gB(n i k:Nat):Nat:=pk (10+5*i+2*k) n
def qG2(n i k:Nat):Nat:=if bal then qJr pk (gB pk n i k)*gBy pk i k else gBy pk i k
def qG4(n i k:Nat):Nat:=if bal then qJr pk (gA pk n i k)*gBy pk i k else 1+pk (10+5*i+2*k) 40/10
def qCv(n i:Nat):Nat->List Amt
 |0=>[]
 |k+1=>qMP (qCv n i k) (gA pk n i k) (qG2 pk bal n i k)
def qCz(n i:Nat):Nat->List Amt
 |0=>[]
 |k+1=>qMP (qCz n i k) (gB pk n i k) (qG4 pk bal n i k)
def gK(i:Nat):Nat:=pk (8+5*i) 3/2+1
def qCh(n i:Nat):Rul:=
 let t:=qCv pk bal n i (gK pk i)
 let g:=qCz pk bal n i (gK pk i)
 let how:=pk (11+5*i) 10
 if how=9 then ⟨ruleTx i,true,0,1,[],g,[]⟩
 else ⟨ruleTx i,false,0,if how<3 then 2 else 1,t,g,if how<3/\(bal=true\/how=0)then t else []⟩
def qBA:Cat:=⟨qAy.take (qLQ pk),(List.range (pk 7 7)).map (qCh pk bal (qLQ pk))⟩
end
section
variable {pk:Nat->Nat->Nat}{bal:Bool}(hp:qJm pk)
include hp
theorem qEL:1<=qLQ pk/\qLQ pk<=5:=by have:=hp.lt 0 5 (by omega);unfold qLQ;omega
theorem qNB(i k:Nat):1<=gBy pk i k/\gBy pk i k<=3:=by have:=hp.lt (9+5*i+2*k) 30 (by omega);unfold gBy;omega
theorem qHN(i:Nat):1<=qJr pk i/\qJr pk i<=4:=by have:=hp.lt (1+i) 4 (by omega);unfold qJr;omega
theorem qNy(n i k:Nat):1<=qG2 pk bal n i k/\qG2 pk bal n i k<=12:=by
 have h1:=qNB hp i k;have h2:=qHN hp (gB pk n i k);unfold qG2
 split
 ·exact⟨Nat.mul_pos h2.1 h1.1,Nat.mul_le_mul h2.2 h1.2⟩
 ·omega
theorem qNA(n i k:Nat):1<=qG4 pk bal n i k/\qG4 pk bal n i k<=12:=by
 have h1:=qNB hp i k;have h2:=qHN hp (gA pk n i k);have h3:=hp.lt (10+5*i+2*k) 40 (by omega);unfold qG4
 split
 ·exact⟨Nat.mul_pos h2.1 h1.1,Nat.mul_le_mul h2.2 h1.2⟩
 ·omega
theorem qDz(n i:Nat)(hn:0<n):∀k,qAM n (12*k) k (qCv pk bal n i k)
 |0=>qAM.nil _ _ _
 |k+1=>by
  have ih:=qDz n i hn k;have h2:=qNy (bal:=bal) hp n i k;exact(qIu ih (hp.lt _ _ hn) h2.1).mono (by omega) (Nat.le_refl _)
theorem qDA(n i:Nat)(hn:0<n):∀k,qAM n (12*k) k (qCz pk bal n i k)
 |0=>qAM.nil _ _ _
 |k+1=>by
  have ih:=qDA n i hn k;have h2:=qNA (bal:=bal) hp n i k;exact(qIu ih (hp.lt _ _ hn) h2.1).mono (by omega) (Nat.le_refl _)
theorem qRF(i:Nat):1<=gK pk i/\gK pk i<=2:=by have:=hp.lt (8+5*i) 3 (by omega);unfold gK;omega
omit hp in
theorem qO3(n i k:Nat)(hk:1<=k):qCv pk bal n i k≠[]:=by
 match k,hk with
 |k+1,_=>exact qQc _ _ _
theorem qLS(n i:Nat)(hn:0<n):qD2 n (qCh pk bal n i):=by
 have hk:=qRF hp i;have ht:=(qDz (bal:=bal) hp n i hn (gK pk i)).mono (M':=1000) (K':=2) (by omega) (by omega);have hg:=(qDA (bal:=bal) hp n i hn (gK pk i)).mono (M':=1000) (K':=2) (by omega) (by omega);have hne:=qO3 (pk:=pk) (bal:=bal) n i (gK pk i) hk.1;unfold qCh;simp only[]
 split
 ·exact⟨qAM.nil _ _ _,hg,qAM.nil _ _ _,by simp,by simp,by simp,by simp,by simp,by simp,.inl rfl⟩
 ·by_cases h3:pk (11+5*i) 10<3
  ·by_cases hb:bal=true\/pk (11+5*i) 10=0
   ·simp only[if_pos h3,if_pos (And.intro h3 hb)]
    exact⟨ht,hg,ht,by simp,by simp,by simp,by simp,by simp,fun _=> .inl hne,.inr rfl⟩
   ·simp only[if_pos h3,if_neg (fun h:pk (11+5*i) 10<3/\(bal=true\/pk (11+5*i) 10=0)=>hb h.2)]
    exact⟨ht,hg,qAM.nil _ _ _,by simp,by simp,by simp,by simp,by simp,fun _=> .inl hne,.inl rfl⟩
  ·simp only[if_neg h3,if_neg (fun h:pk (11+5*i) 10<3/\(bal=true\/pk (11+5*i) 10=0)=>h3 h.1)]
   exact⟨ht,hg,qAM.nil _ _ _,by simp,by simp,by simp,by simp,by simp,fun _=> .inl hne,.inl rfl⟩
theorem qDe:(qBA pk bal).items.length=qLQ pk:=by
 have:=qEL hp;unfold qBA qAy;simp;omega
theorem qJZ:qHf (qBA pk bal):=by
 have hn:=qEL hp;have hl:=qDe (bal:=bal) hp;refine⟨by omega,by omega,?_,fun r hr=> ?_⟩
 ·have:=hp.lt 7 7 (by omega)
  unfold qBA;simp;omega
 ·rw[hl]
  unfold qBA at hr;obtain⟨i,_,rfl⟩:=List.mem_map.1 hr;exact qLS hp _ _ (by omega)
end
open Go.RowKit
def zv(x:Int):Value:=.int .i64 x
def qAb{α:Type}(k:Nat)(R:World->α->List Value->Prop)(w:World)(v:Value)(xs:List α):Prop:=
 ∃a cap,v=.slice a xs.length cap/\xs.length<=cap/\cap<=9223372036854775807/\(0<xs.length->∃b,a=some ⟨b,0,none⟩/\b<w.heap.size/\∀j (h:j<xs.length),∃cs,R w xs[j] cs/\cs.length=k/\∀i,i<k->w.cell? ⟨b,j*k+i,none⟩=cs[i]?)
section
variable {α:Type}{k:Nat}{R:World->α->List Value->Prop}{w w':World}{v:Value}{xs:List α}
theorem qAb.below(h:qAb k R w v xs)(hb:Below w.heap.size w w')(hR:∀x cs,R w x cs->R w' x cs):qAb k R w' v xs:=by
 obtain⟨a,cap,hv,h1,h2,hc⟩:=h;refine⟨a,cap,hv,h1,h2,fun h0=> ?_⟩;obtain⟨b,ha,hlt,hcc⟩:=hc h0;refine⟨b,ha,Nat.lt_of_lt_of_le hlt hb.size,fun j hj=> ?_⟩;obtain⟨cs,hr,hl,hcl⟩:=hcc j hj;exact⟨cs,hR _ _ hr,hl,fun i hi=>(hb.cell (p:=⟨b,j*k+i,none⟩) hlt).trans (hcl i hi)⟩
theorem qAb.nil(a:Option Addr)(cap:Nat)(hc:cap<=9223372036854775807):qAb k R w (.slice a 0 cap) []:=⟨a,cap,rfl,by simp,hc,fun h=>by simp at h⟩
theorem qAb.form(h:qAb k R w v xs):∃a cap,v=.slice a xs.length cap/\xs.length<=cap/\cap<=9223372036854775807:=by
 obtain⟨a,cap,hv,h1,h2,_⟩:=h;exact⟨a,cap,hv,h1,h2⟩
theorem qAb.at_(h:qAb k R w v xs)(j:Nat)(hj:j<xs.length):∃b cap cs,v=.slice (some ⟨b,0,none⟩) xs.length cap/\b<w.heap.size/\R w xs[j] cs/\cs.length=k/\∀i,i<k->w.cell? ⟨b,j*k+i,none⟩=cs[i]? :=by
 obtain⟨a,cap,rfl,h1,h2,hc⟩:=h;obtain⟨b,rfl,hlt,hcc⟩:=hc (by omega);obtain⟨cs,hr,hl,hcl⟩:=hcc j hj;exact⟨b,cap,cs,rfl,hlt,hr,hl,hcl⟩
theorem qAb.take{a:Option Addr}{n cap:Nat}(h:qAb k R w (.slice a n cap) xs)(m:Nat)(hm:m<=xs.length):qAb k R w (.slice a m cap) (xs.take m):=by
 obtain⟨a',cap',hv,h1,h2,hc⟩:=h;injection hv with e1 e2 e3;subst e1 e3;have hl:(xs.take m).length=m:=by rw[List.length_take];omega
 refine⟨a,cap,by rw[hl],by omega,h2,fun h0=> ?_⟩;obtain⟨b,ha,hlt,hcc⟩:=hc (by omega);refine⟨b,ha,hlt,fun j hj=> ?_⟩;obtain⟨cs,hr,hx⟩:=hcc j (by omega);exact⟨cs,by rw[List.getElem_take];exact hr,hx⟩
theorem qCA:∀(css:List (List Value)) (k j i:Nat),(∀cs∈css,cs.length=k)->(hj:j<css.length)->i<k->css.flatten[j*k+i]? =css[j][i]?
 |[],_,_,_,_,hj,_=>by simp at hj
 |cs::css,k,0,i,h,_,hi=>by
  have:=h cs (by simp);rw[List.flatten_cons,List.getElem?_append_left (by omega)];simp
 |cs::css,k,j+1,i,h,hj,hi=>by
  have:=h cs (by simp);rw[List.flatten_cons,List.getElem?_append_right (by rw[Nat.succ_mul];omega),show(j+1)*k+i-cs.length=j*k+i by rw[Nat.succ_mul];omega,qCA css k j i (fun c hc=>h c (by simp[hc])) (by simpa using hj) hi];simp
theorem qAb.of_own{base:Nat}{e:TypeId}{css:List (List Value)}(h:w.ownsRow base e k v css.length css.flatten)(hk:∀cs∈css,cs.length=k)(hl:css.length=xs.length)
 (hR:∀j (h:j<xs.length) (h':j<css.length),R w xs[j] css[j]):qAb k R w v xs:=by
 rcases h.2 with ⟨hv,hx⟩|⟨g,cap,cur,hv,hb,hh,hn,hm,hs,ht⟩
 ·have:xs=[]:=List.eq_nil_of_length_eq_zero (by omega)
  subst this;rw[hv];exact qAb.nil _ _ (by omega)
 ·rw[hl]at hv hn
  refine⟨_,cap,hv,hn,by unfold maxLen at hm;exact hm,fun h0=>⟨g,rfl,(Array.getElem?_eq_some_iff.1 hh).1,fun j hj=>⟨css[j]'(by omega),hR j hj (by omega),hk _ (List.getElem_mem _),fun i hi=> ?_⟩⟩⟩;rw[cell_of_row w g (j*k+i) _ e (0,0) hh,<-qCA css k j i hk (by omega) hi,<-ht];rw[List.getElem?_take,if_pos,Array.getElem?_toList];exact Nat.lt_of_lt_of_le (show j*k+i<(j+1)*k by rw[Nat.succ_mul];omega) (Nat.mul_le_mul_right _ (by omega))
end
def qFa(a:Amt):List Value:=[zv a.item,zv a.n]
def qAl(w:World)(v:Value)(l:List Amt):Prop:=qAb 2 (fun _ a cs=>cs=qFa a) w v l
def qBF(n:Tx):List Value:=[.string ⟨n.toArray⟩,.bool false,.bool false,.bool false,zv 0,zv 0,zv 0]
def qAL(w:World)(v:Value)(l:List Tx):Prop:=qAb 7 (fun _ n cs=>cs=qBF n) w v l
def qP9(r:Rul)(vt vg vb:Value):List Value:=[.string ⟨r.name.toArray⟩,.bool r.spawn,zv 0,zv r.time,zv 1,zv r.of_,vt,vg,vb]
def qDJ(w:World)(r:Rul)(cs:List Value):Prop:=∃vt vg vb,cs=qP9 r vt vg vb/\qAl w vt r.take/\qAl w vg r.give/\qAl w vb r.back
def qA1(w:World)(v:Value)(l:List Rul):Prop:=qAb 9 qDJ w v l
def qAg(w:World)(v:Value)(l:List Int):Prop:=qAb 1 (fun _ a cs=>cs=[zv a]) w v l
structure qAS(w:World)(vi vr:Value)(c:Cat):Prop where
 items:qAL w vi c.items
 rules:qA1 w vr c.rules
section
variable {w w':World}{v:Value}
theorem qAl.below{l:List Amt}(h:qAl w v l)(hb:Below w.heap.size w w'):qAl w' v l:=qAb.below h hb (fun _ _ h=>h)
theorem qAL.below{l:List Tx}(h:qAL w v l)(hb:Below w.heap.size w w'):qAL w' v l:=qAb.below h hb (fun _ _ h=>h)
theorem qAg.below{l:List Int}(h:qAg w v l)(hb:Below w.heap.size w w'):qAg w' v l:=qAb.below h hb (fun _ _ h=>h)
theorem qDJ.below{r:Rul}{cs:List Value}(h:qDJ w r cs)(hb:Below w.heap.size w w'):qDJ w' r cs:=by
 obtain⟨vt,vg,vb,h1,h2,h3,h4⟩:=h;exact⟨vt,vg,vb,h1,h2.below hb,h3.below hb,h4.below hb⟩
theorem qA1.below{l:List Rul}(h:qA1 w v l)(hb:Below w.heap.size w w'):qA1 w' v l:=qAb.below h hb (fun _ _ h=>h.below hb)
theorem qAS.below{vi vr:Value}{c:Cat}(h:qAS w vi vr c)(hb:Below w.heap.size w w'):qAS w' vi vr c:=⟨h.items.below hb,h.rules.below hb⟩
end
theorem qAg.at_{w:World}{v:Value}{l:List Int}(h:qAg w v l)(j:Nat)(hj:j<l.length):
 ∃b cap,v=.slice (some ⟨b,0,none⟩) l.length cap/\b<w.heap.size/\w.cell? ⟨b,j,none⟩=some (.int .i64 l[j]):=by
 obtain⟨b,cap,cs,hv,hb,rfl,_,hc⟩:=qAb.at_ h j hj;have:=hc 0 (by omega);rw[Nat.mul_one,Nat.add_zero]at this;exact⟨b,cap,hv,hb,this⟩
def qEv(P:Program)(t e:TypeId)(k bytes:Nat):Prop:=
 P.underlying t=some (.slice e)/\∃i z,P.info? e=some i/\i.zero=some z/\i.size=k/\i.bytes=bytes/\z.cells.size=k/\0<k
theorem qEv.mk{P:Program}{t e:TypeId}{k bytes:Nat}{z:Value}(h1:P.underlying t=some (.slice e))(h2:(P.info? e).map (fun i=>(i.zero,i.size,i.bytes))=some (some z,k,bytes))(h3:z.cells.size=k)(h4:0<k):qEv P t e k bytes:=by
 obtain⟨i,hi,hz0,hz1,hz2⟩:=info_parts h2;exact⟨h1,i,z,hi,hz0,hz1,hz2,h3,h4⟩
theorem qBz{w w':World}{row:Option Nat}(h:w.grownBy w' row):qAc (fun b=>row=some b) w w':=
 ⟨h.os,h.tape,h.output,h.size,fun k hk hn=>h.block k hk (fun e=>hn e.symm)⟩
theorem qAc.own{S:Nat->Prop}{w w':World}(h:qAc S w w'){base e k n:Nat}{v:Value}{xs:List Value}(ho:w.ownsRow base e k v n xs)(hS:∀b,v.ownBlock=some b->¬S b):w'.ownsRow base e k v n xs:=by
 obtain⟨hl,ho⟩:=ho;refine⟨hl,?_⟩;rcases ho with ho|⟨g,cap,cur,hv,hb,hh,hr⟩
 ·exact .inl ho
 ·refine .inr ⟨g,cap,cur,hv,hb,?_,hr⟩
  rw[h.block g (Array.getElem?_eq_some_iff.1 hh).1 (hS g (by rw[hv];rfl))];exact hh
theorem qAn{P:Program}{W0 w:World}{ops:Array Oper}{rest:List Oper}{o:Oper}{a:Act}{Q:Exit->Act->World->Prop}{B k bytes:Nat}{t e:TypeId}(hE:qEv P t e k bytes)(hgd:o.guard=none)(s x:Operand)
 (ho:o.op=.call { callee:=.builtin .append,args:=#[s,x],argTypes:=#[t,t] })(cs:List Value)(te:TypeId)
 (v:Value)(n:Nat)(xs:List Value)(hs:a.eval s=v)(hx:a.eval x=.slice (some ⟨w.heap.size,0,none⟩) 1 1)(hcs:cs.length=k)(h1:∀u∈cs,u.oneCell'=true)
 (hown:w.ownsRow B e k v n xs)(hB:Below B W0 w)(hle:B<=w.heap.size)(hn:n<=1000000000)(hby:bytes<=1000)
 (h:∀g cap w',Hid (w'.ownsRow B e k (.slice (some ⟨g,0,none⟩) (n+1) cap) (n+1) (xs++cs))->Hid (Below B W0 w')->Hid (qAc (fun b=>v.ownBlock=some b) w w')->cap<=9223372036854775807->Hid (v.ownBlock=some g\/w.heap.size<=g)->wpList P ops Q rest (a.put o.dst (.slice (some ⟨g,0,none⟩) (n+1) cap)) w'):wpList P ops Q (o::rest) a (w.alloc (.cells cs.toArray te)):=by
 obtain⟨ht,i,z,hi,hz,hsize,hbyt,hzs,hk⟩:=hE;have hcap:(n+1)*bytes<=140737488355328:=Nat.le_trans (Nat.mul_le_mul (show n+1<=1000000001 by omega) hby) (by decide);refine wpList_append_lies (w.alloc (.cells cs.toArray te)) hgd s x t ho B e i z k bytes ht hi hz hsize hbyt hzs hk v n xs hs (hown.alloc _) ⟨w.heap.size,0,none⟩ 1 1 cs hx (by rw[Nat.one_mul];exact hcs) ?_ h1 (by omega) (by unfold maxLen;omega) hcap (by simp;omega) (w.heap.size+1) (by simp) ?_
 ·intro j u hu
  have hadd:(⟨w.heap.size,0,none⟩:Addr).add j=⟨w.heap.size,j,none⟩:=by unfold Addr.add;split<;>simp_all
  rw[hadd,cell_of_row _ w.heap.size j _ te (0,0) (heap_alloc_new w _)];simpa using hu
 ·intro g cap w' ho' hg hat hlt
  have hO:qAc (fun b=>v.ownBlock=some b) w w':=(qBz hg)|>fun h2=>⟨h2.os,h2.tape,h2.output,Nat.le_trans (by simp) h2.size,fun k hk hn=>(h2.block k (by simp;omega) hn).trans (Below.heap_alloc w _ k hk)⟩
  refine h g cap w' (hZ ho') (hZ (hO.below hB hle (fun k e=>(hown.lt k e).1))) (hZ hO) ?_ (hZ ?_)
  ·rcases ho'.2 with ⟨hv,_⟩|⟨_,_,_,hv,_,_,_,h3,_⟩
   ·cases hv
   ·injection hv with _ _ e
    unfold maxLen at h3;omega
  ·rcases hat with hat|hat
   ·exact .inl hat
   ·exact .inr (by omega)
theorem qFt{P:Program}{W0 w:World}{ops:Array Oper}{rest:List Oper}{o:Oper}{a:Act}{Q:Exit->Act->World->Prop}{B k bytes:Nat}{t e:TypeId}(hE:qEv P t e k bytes)(hgd:o.guard=none)(s x:Operand)
 (ho:o.op=.call { callee:=.builtin .append,args:=#[s,x],argTypes:=#[t,t] }) 
 (v:Value)(n:Nat)(xs:List Value)(hs:a.eval s=v)(ad:Addr)(m c:Nat)(cs:List Value)(hx:a.eval x=.slice (some ad) m c)(hcs:cs.length=m*k)(hnews:∀j u,cs[j]? =some u->w.cell? (ad.add j)=some u)(h1:∀u∈cs,u.oneCell'=true)
 (hown:w.ownsRow B e k v n xs)(hB:Below B W0 w)(hle:B<=w.heap.size)(hn:n+m<=1000000000)(hby:bytes<=1000)
 (h:∀v' w',Hid (w'.ownsRow B e k v' (n+m) (xs++cs))->Hid (Below B W0 w')->Hid (qAc (fun b=>v.ownBlock=some b) w w')->wpList P ops Q rest (a.put o.dst v') w'):wpList P ops Q (o::rest) a w:=by
 obtain⟨ht,i,z,hi,hz,hsize,hbyt,hzs,hk⟩:=hE;have hcap:(n+m)*bytes<=140737488355328:=Nat.le_trans (Nat.mul_le_mul hn hby) (by decide);refine wpList_append_own w hgd s x t ho B e i z k bytes ht hi hz hsize hbyt hzs hk v n xs hs hown ad m c cs hx hcs hnews h1 (by unfold maxLen;omega) hcap hle ?_;intro v' w' ho' hg _;have hO:=qBz hg;exact h v' w' (hZ ho') (hZ (hO.below hB hle (fun k e=>(hown.lt k e).1))) (hZ hO)
def qAf(w:World)(g:Nat)(t:TypeId)(cs:List Value):Prop:=w.heap[g]? =some (.cells cs.toArray t (0,0))
section
variable {w w':World}{g:Nat}{t:TypeId}{cs:List Value}
theorem qAf.lt(h:qAf w g t cs):g<w.heap.size:=(Array.getElem?_eq_some_iff.1 h).1
theorem qAf.cell(h:qAf w g t cs)(i:Nat):w.cell? ⟨g,i,none⟩=cs[i]? :=by
 rw[cell_of_row w g i _ t (0,0) h];simp
theorem qAf.frozen(h:qAf w g t cs)(i:Nat):w.frozen? ⟨g,i,none⟩=false:=by
 unfold qAf at h;simp[World.frozen?,h]
theorem qAf.below{B:Nat}(h:qAf w g t cs)(hb:Below B w w')(hg:g<B):qAf w' g t cs:=(hb.block g hg).trans h
theorem qAf.set(h:qAf w g t cs)(i:Nat)(u:Value):qAf (w.setCell ⟨g,i,none⟩ u) g t (cs.set i u):=by
 unfold qAf at h ⊢;simp[World.setCell,Array.getElem?_modify,h]
theorem qAf.far(h:qAf w g t cs){p:Addr}(hp:g≠p.block)(u:Value):qAf (w.setCell p u) g t cs:=(Below.heap_setCell w p u g hp).trans h
theorem qAf.drewN(h:qAf w g t cs)(n:Nat):qAf (w.drewN n) g t cs:=h
theorem qAf.drew(h:qAf w g t cs):qAf w.drew g t cs:=h
theorem qAf.alloc(h:qAf w g t cs)(o:Obj):qAf (w.alloc o) g t cs:=(Below.heap_alloc w o g h.lt).trans h
theorem qAf.new(w:World)(t:TypeId)(cs:List Value):qAf (w.alloc (.cells cs.toArray t)) w.heap.size t cs:=heap_alloc_new w _
theorem qAf.only{S:Nat->Prop}(h:qAf w g t cs)(ho:qAc S w w')(hS:¬S g):qAf w' g t cs:=(ho.block g h.lt hS).trans h
theorem qAf.of_own{base k n:Nat}{a:Option Addr}{cap:Nat}(h:w.ownsRow base t k (.slice (some ⟨g,0,none⟩) n cap) n cs)(hc:cap=n):qAf w g t cs:=by
 obtain⟨hl,ho⟩:=h;rcases ho with ⟨hv,_⟩|⟨g',cap',cur,hv,hb,hh,hn,hm,hs,ht⟩
 ·cases hv
 ·injection hv with e1 e2 e3
  injection e1 with e1;injection e1 with e1;subst e1 e3;unfold qAf;rw[hh,<-ht,List.take_of_length_le (by simp[hs,hc])]
end
theorem qBc{α:Type}{k:Nat}{R:World->α->List Value->Prop}{w:World}{xs:List α}{g:Nat}{t:TypeId}{css:List (List Value)}(h:qAf w g t css.flatten)(hk:∀cs∈css,cs.length=k)(hl:css.length=xs.length)
 (hR:∀j (h:j<xs.length) (h':j<css.length),R w xs[j] css[j]){cap:Nat}(hc:xs.length<=cap)(hc2:cap<=9223372036854775807):qAb k R w (.slice (some ⟨g,0,none⟩) xs.length cap) xs:=by
 refine⟨_,cap,rfl,hc,hc2,fun h0=>⟨g,rfl,h.lt,fun j hj=>⟨css[j]'(by omega),hR j hj (by omega),hk _ (List.getElem_mem _),fun i hi=> ?_⟩⟩⟩;rw[h.cell,qCA css k j i hk (by omega) hi]
theorem qBf{α:Type}(f:α->Value)(l:List α):(l.map (fun a=>[f a])).flatten=l.map f:=by
 induction l with
 |nil=>rfl
 |cons x r ih=>simp[ih]
theorem qCg{w:World}{g:Nat}{t:TypeId}{l:List Int}(h:qAf w g t (l.map zv)){cap:Nat}(hc:l.length<=cap)(hc2:cap<=9223372036854775807):qAg w (.slice (some ⟨g,0,none⟩) l.length cap) l:=by
 refine qBc (css:=l.map (fun a=>[zv a])) (by rw[qBf];exact h) (by simp) (by simp) ?_ hc hc2;intro j h1 h2;simp
theorem qF2{w:World}{base:Nat}{e:TypeId}{v:Value}{l:List Int}(h:w.ownsRow base e 1 v l.length (l.map zv)):qAg w v l:=by
 refine qAb.of_own (css:=l.map (fun a=>[zv a])) (base:=base) (e:=e) (by rw[qBf,List.length_map];exact h) (by simp) (by simp) ?_;intro j h1 h2;simp
theorem qGq{w:World}{base:Nat}{e:TypeId}{v:Value}{l:List Amt}(h:w.ownsRow base e 2 v l.length (l.flatMap qFa)):qAl w v l:=by
 refine qAb.of_own (css:=l.map qFa) (base:=base) (e:=e) (by rw[List.length_map,<-List.flatMap_def];exact h) (by simp[qFa]) (by simp) ?_;intro j h1 h2;simp
theorem qEQ:qEv Tryz.prog 52 108 2 16:=qEv.mk (z:=.agg #[.int .i64 0,.int .i64 0]) Tryz.underlying52 (by kernel_rfl) rfl (by decide)
theorem qEP:qEv Tryz.prog 22 3 1 8:=qEv.mk (z:=.int .i64 0) Tryz.underlying22 (by kernel_rfl) rfl (by decide)
def qAi(w:World)(g:Nat):Prop:=∀(o:Nat) (x:Int),w.cell? ⟨g,o,none⟩≠some (.int .u32 x)
theorem qAd.far{w:World}{v:Value}{L:List Nat}{g:Nat}(h:qAd .u32 w v L)(hg:qAi w g)(o:Nat)(u:Value):qAd .u32 (w.setCell ⟨g,o,none⟩ u) v L:=by
 obtain⟨a,cap,hv,h1,h2,hc⟩:=h;refine⟨a,cap,hv,h1,h2,fun h0=> ?_⟩;obtain⟨b,off,ha,hlt,hcc⟩:=hc h0;have hne:b≠g:=by
  rintro rfl;exact hg _ _ (hcc 0 h0)
 refine⟨b,off,ha,by simpa[World.setCell]using hlt,fun j hj=> ?_⟩;rw[World.cell?_setCell_other _ _ _ _ (by intro e;injection e with e1;exact hne e1.symm)];exact hcc j hj
theorem qAr.far{w:World}{v:Value}{z:Int}{g:Nat}(h:qAr w v z)(hg:qAi w g)(o:Nat)(u:Value):qAr (w.setCell ⟨g,o,none⟩ u) v z:=by
 obtain⟨vw,hv,hm⟩:=h;exact⟨vw,hv,hm.far hg o u⟩
theorem qAf.noInt{w:World}{g:Nat}{t:TypeId}{cs:List Value}(h:qAf w g t cs)(hc:∀u∈cs,∀x,u≠ .int .u32 x):qAi w g:=by
 intro o x he;rw[h.cell]at he;exact hc _ (List.mem_of_getElem? he) x rfl
def WCs(w:World)(cs:List Value)(zs:List Int):Prop:=
 zs.length*2<=cs.length/\(∀u∈cs,∀x,u≠ .int .u32 x)/\∀j (h:j<zs.length),∃a n c,cs[j*2]? =some (.bool (decide (zs[j]<0)))/\cs[j*2+1]? =some (.slice a n c)/\qAr w (.agg #[.bool (decide (zs[j]<0)),.slice a n c]) zs[j]
theorem WCs.noInt{w:World}{cs:List Value}{zs:List Int}(h:WCs w cs zs):∀u∈cs,∀x,u≠ .int .u32 x:=h.2.1
theorem WCs.below{w w':World}{cs:List Value}{zs:List Int}(h:WCs w cs zs)(hb:Below w.heap.size w w'):WCs w' cs zs:=by
 refine⟨h.1,h.2.1,fun j hj=> ?_⟩;obtain⟨a,n,c,h1,h2,h3⟩:=h.2.2 j hj;exact⟨a,n,c,h1,h2,h3.below hb⟩
theorem WCs.far{w:World}{cs:List Value}{zs:List Int}{g:Nat}(h:WCs w cs zs)(hg:qAi w g)(o:Nat)(u:Value):WCs (w.setCell ⟨g,o,none⟩ u) cs zs:=by
 refine⟨h.1,h.2.1,fun j hj=> ?_⟩;obtain⟨a,n,c,h1,h2,h3⟩:=h.2.2 j hj;exact⟨a,n,c,h1,h2,h3.far hg o u⟩
def qAC(w:World)(g:Nat)(zs:List Int):Prop:=∃cs,qAf w g 73 cs/\WCs w cs zs
section
variable {w w':World}{g:Nat}{zs:List Int}
theorem qAC.lt(h:qAC w g zs):g<w.heap.size:=by obtain⟨cs,h1,_⟩:=h;exact h1.lt
theorem qAC.noInt(h:qAC w g zs):qAi w g:=by obtain⟨cs,h1,h2⟩:=h;exact h1.noInt h2.noInt
theorem qAC.frozen(h:qAC w g zs)(o:Nat):w.frozen? ⟨g,o,none⟩=false:=by obtain⟨cs,h1,h2⟩:=h;exact h1.frozen o
theorem qAC.at_(h:qAC w g zs)(j:Nat)(hj:j<zs.length):∃a n c,w.cell? ⟨g,j*2,none⟩=some (.bool (decide (zs[j]<0)))/\w.cell? ⟨g,j*2+1,none⟩=some (.slice a n c)/\qAr w (.agg #[.bool (decide (zs[j]<0)),.slice a n c]) zs[j]:=by
 obtain⟨cs,h1,h2⟩:=h;obtain⟨a,n,c,e1,e2,e3⟩:=h2.2.2 j hj;exact⟨a,n,c,(h1.cell _).trans e1,(h1.cell _).trans e2,e3⟩
theorem qAC.below(h:qAC w g zs)(hb:Below w.heap.size w w'):qAC w' g zs:=by
 obtain⟨cs,h1,h2⟩:=h;exact⟨cs,h1.below hb h1.lt,h2.below hb⟩
theorem qAC.far{g':Nat}(h:qAC w g zs)(hne:g≠g')(hg:qAi w g')(o:Nat)(u:Value):qAC (w.setCell ⟨g',o,none⟩ u) g zs:=by
 obtain⟨cs,h1,h2⟩:=h;exact⟨cs,h1.far hne u,h2.far hg o u⟩
theorem qAC.put(h:qAC w g zs)(j:Nat)(hj:j<zs.length){z:Int}{a:Option Addr}{n c:Nat}(hz:qAr w (.agg #[.bool (decide (z<0)),.slice a n c]) z):
 qAC ((w.setCell ⟨g,j*2,none⟩ (.bool (decide (z<0)))).setCell ⟨g,j*2+1,none⟩ (.slice a n c)) g (zs.set j z):=by
 have hn:=h.noInt;obtain⟨cs,h1,h2⟩:=h;have h3:=h1.set (j*2) (.bool (decide (z<0)));have hn2:qAi (w.setCell ⟨g,j*2,none⟩ (.bool (decide (z<0)))) g:=h3.noInt (fun u hu x=>by
  rcases List.mem_or_eq_of_mem_set hu with h|h
  ·exact h2.noInt u h x
  ·rw[h];intro e;cases e)
 have h4:=(h2.far hn (j*2) (.bool (decide (z<0)))).far hn2 (j*2+1) (.slice a n c);refine⟨_,h3.set (j*2+1) (.slice a n c),by simpa using h2.1,?_,fun q hq=> ?_⟩
 ·intro u hu x
  rcases List.mem_or_eq_of_mem_set hu with h|h
  ·rcases List.mem_or_eq_of_mem_set h with h|h
   ·exact h2.noInt u h x
   ·rw[h];intro e;cases e
  ·rw[h];intro e;cases e
 rw[List.length_set]at hq;by_cases e:q=j
 ·subst e
  have hl:=h2.1;refine⟨a,n,c,?_,?_,?_⟩
  ·rw[List.getElem?_set_ne (by omega),List.getElem?_set_self (by omega),List.getElem_set_self]
  ·rw[List.getElem?_set_self (by simp;omega)]
  ·rw[List.getElem_set_self]
   exact(hz.far hn _ _).far hn2 _ _
 ·obtain⟨a',n',c',e1,e2,e3⟩:=h4.2.2 q hq
  refine⟨a',n',c',?_,?_,?_⟩
  ·rw[List.getElem?_set_ne (by omega),List.getElem?_set_ne (by omega),List.getElem_set_ne (Ne.symm e)];exact e1
  ·rw[List.getElem?_set_ne (by omega),List.getElem?_set_ne (by omega)];exact e2
  ·rw[List.getElem_set_ne (Ne.symm e)];exact e3
end
def qA8(w:World)(v:Value)(m:List (List Int)):Prop:=qAb 1 (fun W r cs=>∃u,cs=[u]/\qAg W u r) w v m
theorem qA8.below{w w':World}{v:Value}{m:List (List Int)}(h:qA8 w v m)(hb:Below w.heap.size w w'):qA8 w' v m:=
 qAb.below h hb (fun _ _ ⟨u,e,hu⟩=>⟨u,e,hu.below hb⟩)
theorem qA8.form{w:World}{v:Value}{m:List (List Int)}(h:qA8 w v m):∃a cap,v=.slice a m.length cap/\m.length<=cap/\cap<=9223372036854775807:=qAb.form h
theorem qA8.at_{w:World}{v:Value}{m:List (List Int)}(h:qA8 w v m)(j:Nat)(hj:j<m.length):
 ∃b cap a c,v=.slice (some ⟨b,0,none⟩) m.length cap/\b<w.heap.size/\w.cell? ⟨b,j,none⟩=some (.slice a m[j].length c)/\qAg w (.slice a m[j].length c) m[j]/\m[j].length<=c/\c<=9223372036854775807:=by
 obtain⟨b,cap,cs,hv,hb,⟨u,rfl,hu⟩,hcell⟩:=qAb.at_ h j hj;obtain⟨a,c,rfl,h1,h2⟩:=hu.form;have h0:=hcell.2 0 (by omega);exact⟨b,cap,a,c,hv,hb,by simpa using h0,hu,h1,h2⟩
def qBv(m:List (List Int)):Int:=
 if 64<m.length then 4 else if m.any (fun r=>decide (128<r.length))then 4
 else if m.any (fun r=>decide (r.length≠(m[0]?.getD []).length))then 1
 else if m.any (fun r=>r.any (fun x=>decide (x< -1099511627776\/1099511627776<x)))then 5 else 0
theorem qKg{m:List (List Int)}(h:64<m.length):qBv m=4:=by simp[qBv,h]
theorem qKh{m:List (List Int)}(h:m.length<=64){r:List Int}(hr:r∈m)(h2:128<r.length):qBv m=4:=by
 rw[qBv,if_neg (by omega),if_pos (List.any_eq_true.2 ⟨r,hr,by simpa using h2⟩)]
theorem qL1{m:List (List Int)}(h:m.length<=64)(h2:∀r∈m,r.length<=128)(h0:0<m.length){r:List Int}(hr:r∈m)(h3:r.length≠m[0].length):qBv m=1:=by
 rw[qBv,if_neg (by omega),if_neg (by rw[List.any_eq_true];rintro⟨x,hx,e⟩;have:=h2 x hx;simp at e;omega),if_pos (List.any_eq_true.2 ⟨r,hr,by simpa[List.getElem?_eq_getElem h0]using h3⟩)]
theorem qL2{m:List (List Int)}(h:m.length<=64)(h2:∀r∈m,r.length<=128)(h0:0<m.length)(h3:∀r∈m,r.length=m[0].length){r:List Int}(hr:r∈m){x:Int}(hx:x∈r)(h4:x< -1099511627776\/1099511627776<x):qBv m=5:=by
 rw[qBv,if_neg (by omega),if_neg (by rw[List.any_eq_true];rintro⟨x,hx,e⟩;have:=h2 x hx;simp at e;omega),if_neg (by rw[List.any_eq_true];rintro⟨x,hx,e⟩;have:=h3 x hx;simp[List.getElem?_eq_getElem h0]at e;omega),
  if_pos (List.any_eq_true.2 ⟨r,hr,List.any_eq_true.2 ⟨x,hx,by simpa using h4⟩⟩)]
structure qD3(m:List (List Int)):Prop where
 rows:m.length<=64
 cols:∀r∈m,r.length<=128
 even:∀r∈m,r.length=(m[0]?.getD []).length
 small:∀r∈m,∀x∈r, -1099511627776<=x/\x<=1099511627776
theorem qGn{m:List (List Int)}:qBv m=0 ↔ qD3 m:=by
 unfold qBv;constructor
 ·intro h
  split at h
  ·simp at h
  ·rename_i h1
   split at h
   ·simp at h
   ·rename_i h2
    split at h
    ·simp at h
    ·rename_i h3
     split at h
     ·simp at h
     ·rename_i h4
      simp only[List.any_eq_true,decide_eq_true_eq,not_exists,not_and]at h2 h3 h4;refine⟨by omega,fun r hr=>by have:=h2 r hr;omega,fun r hr=>by have:=h3 r hr;omega,fun r hr x hx=>by have:=h4 r hr x hx;omega⟩
 ·intro h
  rw[if_neg (by have:=h.rows;omega),if_neg,if_neg,if_neg]
  ·rw[List.any_eq_true];rintro⟨r,hr,e⟩
   rw[List.any_eq_true]at e;obtain⟨x,hx,e⟩:=e;have:=h.small r hr x hx;simp at e;omega
  ·rw[List.any_eq_true];rintro⟨r,hr,e⟩
   have:=h.even r hr;simp at e;exact e this
  ·rw[List.any_eq_true];rintro⟨r,hr,e⟩
   have:=h.cols r hr;simp at e;omega
open Go
section
variable {P:Program}{md:Region.Mode}{ops:Array Oper}{Q:Exit->Act->World->Prop}{S:World->Prop}{late:List Nat}
def qAA(P:Program)(md:Region.Mode)(ops:Array Oper)(Q:Exit->Act->World->Prop)(S:World->Prop)(late:List Nat):Nat->Array Bool->Act->World->Prop
 |0,listed,a,w=>Region.ready md ops listed=[]/\Q .normal a w
 |fuel+1,listed,a,w=>
  (Region.ready md ops listed=[]->Q .normal a w)/\
  ∀i∈Region.ready md ops listed,wpOp P ops Q i (fun a' w'=>(i∉late->S w->S w')/\qAA P md ops Q S late fuel (listed.setIfInBounds i true) a' w') a w
theorem qGO:∀(fuel:Nat) (listed:Array Bool) (a:Act) (w:World),qAA P md ops Q S late fuel listed a w->wpAny P md ops Q fuel listed a w
 |0,_,_,_,h=>h
 |fuel+1,_,_,_,h=>⟨h.1,fun i hi=>wpOp_mono (fun a' w' h'=>qGO fuel _ a' w' h'.2) (h.2 i hi)⟩
def qIa(md:Region.Mode)(ops:Array Oper)(i:Nat):Nat->Nat->Bool
 |0,_=>false
 |f+1,l=>match ops[l]? with
  |some o=>o.after.any fun e=>Region.binds md e && (e.on==i||qIa md ops i f e.on)
  |none=>false
def qGs(md:Region.Mode)(ops:Array Oper)(listed:Array Bool):Prop:=∀j,listed.getD j false=true->∀o,ops[j]? =some o->∀e∈o.after,Region.binds md e=true->listed.getD e.on false=true
def qD0(md:Region.Mode)(ops:Array Oper)(listed:Array Bool):Bool:=(List.range ops.size).all fun j=> !(listed.getD j false)||match ops[j]? with
 |some o=>o.after.all fun e=> !(Region.binds md e)||listed.getD e.on false
 |none=>true
theorem qI7{listed:Array Bool}(h:qD0 md ops listed=true):qGs md ops listed:=by
 intro j hj o ho e he hb;unfold qD0 at h;rw[List.all_eq_true]at h;have h1:=h j (by rw[List.mem_range];exact(Array.getElem?_eq_some_iff.1 ho).1);rw[hj,ho]at h1;simp only[Bool.not_true,Bool.false_or,Array.all_eq_true_iff_forall_mem]at h1;have h2:=h1 e he;rw[hb]at h2;simpa using h2
theorem qGs.set{listed:Array Bool}{i:Nat}(h:qGs md ops listed)(hr:i∈Region.ready md ops listed):qGs md ops (listed.setIfInBounds i true):=by
 intro j hj o ho e he hb;by_cases hij:i=j
 ·subst hij
  obtain⟨_,o',ho',hall⟩:=mem_ready.1 hr;rw[ho]at ho';injection ho' with ho';subst ho';exact getD_set_true (hall e he hb)
 ·rw[getD_set_ne false hij]at hj
  exact getD_set_true (h j hj o ho e he hb)
theorem qD5{i:Nat}{listed:Array Bool}(hc:qGs md ops listed):∀(f l:Nat),qIa md ops i f l=true->(∀o,ops[l]? =some o->∀e∈o.after,Region.binds md e=true->listed.getD e.on false=true)->listed.getD i false=true
 |0,l,h,_=>by simp[qIa]at h
 |f+1,l,h,hl=>by
  unfold qIa at h;cases ho:ops[l]? with
  |none=>rw[ho]at h;simp at h
  |some o=>
   rw[ho]at h;simp only[Array.any_eq_true',Bool.and_eq_true,Bool.or_eq_true,beq_iff_eq]at h;obtain⟨e,he,hb,h⟩:=h;have h1:=hl o ho e he hb;rcases h with h|h
   ·rw[<-h];exact h1
   ·exact qD5 hc f e.on h (hc e.on h1)
def qE1(md:Region.Mode)(ops:Array Oper)(late:List Nat)(i:Nat):Bool:=late.all fun l=>i != l && qIa md ops i ops.size l
theorem qOF{i j:Nat}{listed:Array Bool}(hc:qGs md ops listed)(hw:qE1 md ops late i=true)(hr:i∈Region.ready md ops listed)(hj:j∈Region.ready md ops listed):j∉late:=fun hl=>by
 unfold qE1 at hw;rw[List.all_eq_true]at hw;have h1:=hw j hl;simp only[Bool.and_eq_true]at h1;have h2:=qD5 hc _ _ h1.2 (fun o ho=>by
  obtain⟨_,o',ho',hall⟩:=mem_ready.1 hj;rw[ho]at ho';injection ho' with ho';subst ho';exact hall)
 have h0:=(mem_ready.1 hr).1;rcases Nat.lt_or_ge i listed.size with h'|h'
 ·simp[h']at h0 h2
  rw[h0]at h2;cases h2
 ·simp[Array.getElem?_eq_none h']at h2
theorem qEZ{i:Nat}{oi:Oper}{v:Value}(hi:ops[i]? =some oi)(hsel:∀(j:Nat) (o:Oper) cs b,ops[j]? =some o->o.op≠ .select cs b)
 (hQ:∀c a w,Q (.panic c) (a.put oi.dst v) w->Q (.panic c) a w)(hwt:qE1 md ops late i=true)(fuel:Nat):
 ∀(listed:Array Bool) (a:Act) (w:World),qGs md ops listed->
  (∀j oj,ops[j]? =some oj->j≠i->listed.getD j true=false->(∀e∈oj.after,Region.binds md e=true->e.on≠i)->oi.apart ops oj=true)->
  i∈Region.ready md ops listed->YieldsIf P ops S oi v a->S w->
  qAA P md ops Q S late fuel (listed.setIfInBounds i true) (a.put oi.dst v) w->qAA P md ops Q S late (fuel+1) listed a w:=by
 induction fuel with
 |zero=>
  intro listed a w hc _ hr hy hS H;refine⟨fun h=>absurd hr (by rw[h];simp),fun j hj=> ?_⟩;by_cases hji:j=i
  ·subst hji
   exact hy.wpOp hi hS ⟨fun _ _=>hS,H⟩
  ·exact absurd (ready_mono hj hji) (by rw[H.1];simp)
 |succ fuel ih=>
  intro listed a w hc hfree hr hy hS H;refine⟨fun h=>absurd hr (by rw[h];simp),fun j hj=> ?_⟩;by_cases hji:j=i
  ·subst hji
   exact hy.wpOp hi hS ⟨fun _ _=>hS,H⟩
  ·have hjl:j∉late:=qOF hc hwt hr hj
   obtain⟨hjun,oj,hoj,hall⟩:=mem_ready.1 hj;have hnot:∀e∈oj.after,Region.binds md e=true->e.on≠i:=by
    intro e he hb heq;have h1:=hall e he hb;have h0:=(mem_ready.1 hr).1;rw[heq]at h1;rcases Nat.lt_or_ge i listed.size with h'|h'
    ·simp[h']at h0 h1
     rw[h0]at h1;cases h1
    ·simp[Array.getElem?_eq_none h']at h1
   have h2:=wpOp_putIf hoj (hfree j oj hoj hji hjun hnot) (fun cs b=>hsel i oi cs b hi) (fun cs b=>hsel j oj cs b hoj) hQ hy (H.2 j (ready_mono hj hji));refine wpOp_mono (fun a' w' h3=>⟨h3.2.1,ih _ a' w' (hc.set hj) (fun k ok hk hki hun hno=> ?_) (ready_mono hr (Ne.symm hji)) h3.1 (h3.2.1 hjl hS) ?_⟩) h2
   ·refine hfree k ok hk hki ?_ hno
    by_cases hjk:j=k
    ·subst hjk;exact hjun
    ·rw[getD_set_ne true hjk]at hun;exact hun
   ·rw[Array.setIfInBounds_comm _ _ hji]
    exact h3.2.2
theorem qJw{i:Nat}{oi:Oper}{v:Value}(hi:ops[i]? =some oi)(hsel:∀(j:Nat) (o:Oper) cs b,ops[j]? =some o->o.op≠ .select cs b)
 (hQ:∀c a w,Q (.panic c) (a.put oi.dst v) w->Q (.panic c) a w)(fuel:Nat):
 ∀(listed:Array Bool) (a:Act) (w:World), 
  (∀j oj,ops[j]? =some oj->j≠i->listed.getD j true=false->(∀e∈oj.after,Region.binds md e=true->e.on≠i)->oi.apart ops oj=true)->
  i∈Region.ready md ops listed->YieldsIf P ops (fun _=>True) oi v a->
  qAA P md ops Q S late fuel (listed.setIfInBounds i true) (a.put oi.dst v) w->qAA P md ops Q S late (fuel+1) listed a w:=by
 induction fuel with
 |zero=>
  intro listed a w _ hr hy H;refine⟨fun h=>absurd hr (by rw[h];simp),fun j hj=> ?_⟩;by_cases hji:j=i
  ·subst hji
   exact hy.wpOp hi trivial ⟨fun _ h=>h,H⟩
  ·exact absurd (ready_mono hj hji) (by rw[H.1];simp)
 |succ fuel ih=>
  intro listed a w hfree hr hy H;refine⟨fun h=>absurd hr (by rw[h];simp),fun j hj=> ?_⟩;by_cases hji:j=i
  ·subst hji
   exact hy.wpOp hi trivial ⟨fun _ h=>h,H⟩
  ·obtain⟨hjun,oj,hoj,hall⟩:=mem_ready.1 hj
   have hnot:∀e∈oj.after,Region.binds md e=true->e.on≠i:=by
    intro e he hb heq;have h1:=hall e he hb;have h0:=(mem_ready.1 hr).1;rw[heq]at h1;rcases Nat.lt_or_ge i listed.size with h'|h'
    ·simp[h']at h0 h1
     rw[h0]at h1;cases h1
    ·simp[Array.getElem?_eq_none h']at h1
   have h2:=wpOp_putIf hoj (hfree j oj hoj hji hjun hnot) (fun cs b=>hsel i oi cs b hi) (fun cs b=>hsel j oj cs b hoj) hQ hy (H.2 j (ready_mono hj hji));refine wpOp_mono (fun a' w' h3=>⟨h3.2.1,ih _ a' w' (fun k ok hk hki hun hno=> ?_) (ready_mono hr (Ne.symm hji)) h3.1 ?_⟩) h2
   ·refine hfree k ok hk hki ?_ hno
    by_cases hjk:j=k
    ·subst hjk;exact hjun
    ·rw[getD_set_ne true hjk]at hun;exact hun
   ·rw[Array.setIfInBounds_comm _ _ hji]
    exact h3.2.2
theorem qJy(i d:Nat){oi:Oper}{v:Value}{fuel:Nat}{listed:Array Bool}{tmps:Array Value}{ds:List Deferred}{w:World}(hi:ops[i]? =some oi)(hd:oi.dst=some d)
 (hs:Region.noSelect ops=true)(hf:Region.free md ops listed i=true)(hr:(Region.ready md ops listed).contains i=true)(hwt:qE1 md ops late i=true)(hc:qD0 md ops listed=true)
 (hQ:∀c a w,Q (.panic c) (a.put oi.dst v) w->Q (.panic c) a w)(hw:Region.wanted oi (yielded ops tmps)=true)(hy:∀w,S w->(execOp (Act.eval ⟨tmps,ds⟩) oi).run P w=.ok (.value v) w)(hS:S w)
 (h:qAA P md ops Q S late fuel (listed.setIfInBounds i true) ⟨tmps.setIfInBounds d v,ds⟩ w):qAA P md ops Q S late (fuel+1) listed ⟨tmps,ds⟩ w:=
 qEZ hi (Region.noSelect_spec hs) hQ hwt fuel listed _ w (qI7 hc) (Region.free_spec hi hf) (by simpa using hr) (Or.inl ⟨hw,hy⟩) hS (by rw[hd];exact h)
theorem qSc(i d:Nat){oi:Oper}{v:Value}{fuel:Nat}{listed:Array Bool}{tmps:Array Value}{ds:List Deferred}{w:World}(hi:ops[i]? =some oi)(hd:oi.dst=some d)
 (hs:Region.noSelect ops=true)(hf:Region.free md ops listed i=true)(hr:(Region.ready md ops listed).contains i=true)
 (hQ:∀c a w,Q (.panic c) (a.put oi.dst v) w->Q (.panic c) a w)(hw:Region.wanted oi (yielded ops tmps)=true)(hy:∀w,(execOp (Act.eval ⟨tmps,ds⟩) oi).run P w=.ok (.value v) w)
 (h:qAA P md ops Q S late fuel (listed.setIfInBounds i true) ⟨tmps.setIfInBounds d v,ds⟩ w):qAA P md ops Q S late (fuel+1) listed ⟨tmps,ds⟩ w:=
 qJw hi (Region.noSelect_spec hs) hQ fuel listed _ w (Region.free_spec hi hf) (by simpa using hr) (Or.inl ⟨hw,fun w _=>hy w⟩) (by rw[hd];exact h)
theorem qR8(i d:Nat){oi:Oper}{fuel:Nat}{listed:Array Bool}{tmps:Array Value}{ds:List Deferred}{w:World}(hi:ops[i]? =some oi)(hd:oi.dst=some d)
 (hs:Region.noSelect ops=true)(hf:Region.free md ops listed i=true)(hr:(Region.ready md ops listed).contains i=true)(hwt:qE1 md ops late i=true)(hc:qD0 md ops listed=true)
 (hQ:∀c a w,Q (.panic c) (a.put oi.dst undef) w->Q (.panic c) a w)(hw:Region.wanted oi (yielded ops tmps)=false)(hS:S w)
 (h:qAA P md ops Q S late fuel (listed.setIfInBounds i true) ⟨tmps.setIfInBounds d undef,ds⟩ w):qAA P md ops Q S late (fuel+1) listed ⟨tmps,ds⟩ w:=
 qEZ hi (Region.noSelect_spec hs) hQ hwt fuel listed _ w (qI7 hc) (Region.free_spec hi hf) (by simpa using hr) (Or.inr ⟨hw,rfl⟩) hS (by rw[hd];exact h)
theorem qSl{listed:Array Bool}{a:Act}{w:World}(hr:Region.ready md ops listed=[])(h:Q .normal a w):∀fuel,qAA P md ops Q S late fuel listed a w
 |0=>⟨hr,h⟩
 |_+1=>⟨fun _=>h,by rw[hr];simp⟩
theorem qR7(i:Nat){o:Oper}{fuel:Nat}{listed:Array Bool}{a:Act}{w:World}(hr:Region.ready md ops listed=[i])(ho:ops[i]? =some o)
 (h:∀K':Act->World->Prop,Shut (∀a w,S w->(S w->qAA P md ops Q S late fuel (listed.setIfInBounds i true) a w)->K' a w)->if Region.wanted o (yielded ops a.tmps)=true then Oper.wp P o a w K' Q else K' (a.put o.dst undef) w):
 qAA P md ops Q S late (fuel+1) listed a w:=by
 refine⟨fun h0=>absurd (hr.symm.trans h0) (by simp),fun j hj=> ?_⟩;rw[hr,List.mem_singleton]at hj;subst hj;exact wpOp_step ho (fun K' hK=>h K' (fun a w hS hW=>hK a w ⟨fun _ _=>hS,hW hS⟩))
theorem qSf(i:Nat){o:Oper}{fuel:Nat}{listed:Array Bool}{a:Act}{w:World}(hr:Region.ready md ops listed=[i])(hl:i∈late)(ho:ops[i]? =some o)
 (h:∀K':Act->World->Prop,Shut (∀a w,qAA P md ops Q S late fuel (listed.setIfInBounds i true) a w->K' a w)->if Region.wanted o (yielded ops a.tmps)=true then Oper.wp P o a w K' Q else K' (a.put o.dst undef) w):
 qAA P md ops Q S late (fuel+1) listed a w:=by
 refine⟨fun h0=>absurd (hr.symm.trans h0) (by simp),fun j hj=> ?_⟩;rw[hr,List.mem_singleton]at hj;subst hj;exact wpOp_step ho (fun K' hK=>h K' (fun a w hW=>hK a w ⟨fun h=>absurd hl h,hW⟩))
def qRf(f:Nat->Prop):List Nat->Prop
 |[]=>True
 |i::r=>f i/\qRf f r
theorem qRf.mem{f:Nat->Prop}:∀{l:List Nat},qRf f l->∀i∈l,f i
 |[],_,_,h=>by cases h
 |j::r,h,i,hi=>by
  rcases List.mem_cons.1 hi with rfl|hi
  ·exact h.1
  ·exact qRf.mem h.2 i hi
theorem qRG(rs:List Nat){fuel:Nat}{listed:Array Bool}{a:Act}{w:World}(hr:Region.ready md ops listed=rs)(hne:rs≠[])
 (h:qRf (fun i=>wpOp P ops Q i (fun a' w'=>S w'/\qAA P md ops Q S late fuel (listed.setIfInBounds i true) a' w') a w) rs):
 qAA P md ops Q S late (fuel+1) listed a w:=by
 refine⟨fun h0=>absurd (hr.symm.trans h0) hne,fun j hj=> ?_⟩;rw[hr]at hj;exact wpOp_mono (fun a' w' h'=>⟨fun _ _=>h'.1,h'.2⟩) (h.mem j hj)
theorem qFp(i:Nat){o:Oper}{fuel:Nat}{listed:Array Bool}{a:Act}{w:World}(ho:ops[i]? =some o)
 (h:∀K':Act->World->Prop,Shut (∀a w,S w->(S w->qAA P md ops Q S late fuel (listed.setIfInBounds i true) a w)->K' a w)->if Region.wanted o (yielded ops a.tmps)=true then Oper.wp P o a w K' Q else K' (a.put o.dst undef) w):
 wpOp P ops Q i (fun a' w'=>S w'/\qAA P md ops Q S late fuel (listed.setIfInBounds i true) a' w') a w:=
 wpOp_step ho (fun K' hK=>h K' (fun a w hS hW=>hK a w ⟨hS,hW hS⟩))
theorem qAU{id:Nat}{a:Act}{w:World}(late:List Nat)(S:World->Prop)(hm:P.follows .mixedOrders=true)(hS:S w.drew)
 (h:S w.drew->qAA P .any ops Q S late ops.size (Array.replicate ops.size false) a w.drew):(Code.region id ops true).wp P Q a w:=
 wp_region_any hm (qGO _ _ _ _ (h hS))
end
/-- short names -/
theorem sX1{α:Type _}(l:List α)(i:Nat)(a:α):l.toArray.setIfInBounds i a=(l.set i a).toArray:=List.setIfInBounds_toArray ..
theorem sX2{α:Type _}{x:α}{xs:List α}{a:α}:(x::xs).set 0 a=a::xs:=List.set_cons_zero ..
theorem sX3{α:Type _}{x:α}{xs:List α}{i:Nat}{a:α}:(x::xs).set (i+1) a=x::xs.set i a:=List.set_cons_succ ..
section
variable {P:Program}{md:Region.Mode}{ops:Array Oper}{Q:Exit->Act->World->Prop}{S:World->Prop}{late:List Nat}
theorem pU(i d:Nat){oi:Oper}{v:Value}{T:Array Value}{fuel:Nat}{listed:Array Bool}{tmps:Array Value}{ds:List Deferred}{w:World}
    (h:qAA P md ops Q S late fuel (listed.setIfInBounds i true) ⟨T,ds⟩ w)
    (hi:ops[i]? =some oi:=by rfl)(hd:oi.dst=some d:=by rfl)
    (hy:∀w,(execOp (Act.eval ⟨tmps,ds⟩) oi).run P w=.ok (.value v) w:=by(intro w;go_simp;first|done|with_reducible rfl))
    (hT:tmps.setIfInBounds d v=T:=by(simp only[List.setIfInBounds_toArray,List.set_cons_zero,List.set_cons_succ];try rfl))
    (hs:Region.noSelect ops=true:=by kernel_rfl)(hf:Region.free md ops listed i=true:=by kernel_rfl)(hr:(Region.ready md ops listed).contains i=true:=by kernel_rfl)
    (hQ:∀c a w,Q (.panic c) (a.put oi.dst v) w->Q (.panic c) a w:=by exact fun _ _ _ h=>h)(hw:Region.wanted oi (yielded ops tmps)=true:=by rfl):qAA P md ops Q S late (fuel+1) listed ⟨tmps,ds⟩ w:=
  qSc i d hi hd hs hf hr hQ hw hy (hT▸h)
theorem tU(i d:Nat){oi:Oper}{v:Value}{T:Array Value}{fuel:Nat}{listed:Array Bool}{tmps:Array Value}{ds:List Deferred}{w:World}{A:Addr}{x:Value}(c:∀w,S w->w.cell? A=some x)
    (h:qAA P md ops Q S late fuel (listed.setIfInBounds i true) ⟨T,ds⟩ w)
    (hi:ops[i]? =some oi:=by rfl)(hd:oi.dst=some d:=by rfl)
    (y:∀w,w.cell? A=some x->(execOp (Act.eval ⟨tmps,ds⟩) oi).run P w=.ok (.value v) w:=by(intro w x0;go_simp;first|done|with_reducible rfl))
    (hT:tmps.setIfInBounds d v=T:=by(simp only[List.setIfInBounds_toArray,List.set_cons_zero,List.set_cons_succ];try rfl))
    (hs:Region.noSelect ops=true:=by kernel_rfl)(hf:Region.free md ops listed i=true:=by kernel_rfl)(hr:(Region.ready md ops listed).contains i=true:=by kernel_rfl)(hwt:qE1 md ops late i=true:=by kernel_rfl)(hc:qD0 md ops listed=true:=by kernel_rfl)
    (hQ:∀c a w,Q (.panic c) (a.put oi.dst v) w->Q (.panic c) a w:=by exact fun _ _ _ h=>h)(hw:Region.wanted oi (yielded ops tmps)=true:=by rfl)(hS:S w:=by assumption):qAA P md ops Q S late (fuel+1) listed ⟨tmps,ds⟩ w:=
  qJy i d hi hd hs hf hr hwt hc hQ hw (fun w s=>y w (c w s)) hS (hT▸h)
theorem tV(i d:Nat){oi:Oper}{v:Value}{T:Array Value}{fuel:Nat}{listed:Array Bool}{tmps:Array Value}{ds:List Deferred}{w:World}{A B:Addr}{x z:Value}(c:∀w,S w->w.cell? A=some x)(c':∀w,S w->w.cell? B=some z)
    (h:qAA P md ops Q S late fuel (listed.setIfInBounds i true) ⟨T,ds⟩ w)
    (hi:ops[i]? =some oi:=by rfl)(hd:oi.dst=some d:=by rfl)
    (y:∀w,w.cell? A=some x->w.cell? B=some z->(execOp (Act.eval ⟨tmps,ds⟩) oi).run P w=.ok (.value v) w:=by(intro w x0 x1;go_simp;first|done|with_reducible rfl))
    (hT:tmps.setIfInBounds d v=T:=by(simp only[List.setIfInBounds_toArray,List.set_cons_zero,List.set_cons_succ];try rfl))
    (hs:Region.noSelect ops=true:=by kernel_rfl)(hf:Region.free md ops listed i=true:=by kernel_rfl)(hr:(Region.ready md ops listed).contains i=true:=by kernel_rfl)(hwt:qE1 md ops late i=true:=by kernel_rfl)(hc:qD0 md ops listed=true:=by kernel_rfl)
    (hQ:∀c a w,Q (.panic c) (a.put oi.dst v) w->Q (.panic c) a w:=by exact fun _ _ _ h=>h)(hw:Region.wanted oi (yielded ops tmps)=true:=by rfl)(hS:S w:=by assumption):qAA P md ops Q S late (fuel+1) listed ⟨tmps,ds⟩ w:=
  qJy i d hi hd hs hf hr hwt hc hQ hw (fun w s=>y w (c w s) (c' w s)) hS (hT▸h)
theorem sU(i d:Nat){oi:Oper}{T:Array Value}{fuel:Nat}{listed:Array Bool}{tmps:Array Value}{ds:List Deferred}{w:World}
    (h:qAA P md ops Q S late fuel (listed.setIfInBounds i true) ⟨T,ds⟩ w)
    (hi:ops[i]? =some oi:=by rfl)(hd:oi.dst=some d:=by rfl)
    (hT:tmps.setIfInBounds d undef=T:=by(simp only[List.setIfInBounds_toArray,List.set_cons_zero,List.set_cons_succ];try rfl))
    (hs:Region.noSelect ops=true:=by kernel_rfl)(hf:Region.free md ops listed i=true:=by kernel_rfl)(hr:(Region.ready md ops listed).contains i=true:=by kernel_rfl)(hwt:qE1 md ops late i=true:=by kernel_rfl)(hc:qD0 md ops listed=true:=by kernel_rfl)
    (hQ:∀c a w,Q (.panic c) (a.put oi.dst undef) w->Q (.panic c) a w:=by exact fun _ _ _ h=>h)(hw:Region.wanted oi (yielded ops tmps)=false:=by rfl)(hS:S w:=by assumption):qAA P md ops Q S late (fuel+1) listed ⟨tmps,ds⟩ w:=
  qR8 i d hi hd hs hf hr hwt hc hQ hw hS (hT▸h)
theorem eU(i:Nat){o:Oper}{fuel:Nat}{listed:Array Bool}{a:Act}{w:World}
    (h:∀K':Act->World->Prop,Shut (∀a w,S w->(S w->qAA P md ops Q S late fuel (listed.setIfInBounds i true) a w)->K' a w)->if Region.wanted o (yielded ops a.tmps)=true then Oper.wp P o a w K' Q else K' (a.put o.dst undef) w)
    (ho:ops[i]? =some o:=by rfl)(hr:Region.ready md ops listed=[i]:=by kernel_rfl):qAA P md ops Q S late (fuel+1) listed a w:=qR7 i hr ho h
theorem lU(i:Nat){o:Oper}{fuel:Nat}{listed:Array Bool}{a:Act}{w:World}
    (h:∀K':Act->World->Prop,Shut (∀a w,qAA P md ops Q S late fuel (listed.setIfInBounds i true) a w->K' a w)->if Region.wanted o (yielded ops a.tmps)=true then Oper.wp P o a w K' Q else K' (a.put o.dst undef) w)
    (ho:ops[i]? =some o:=by rfl)(hr:Region.ready md ops listed=[i]:=by kernel_rfl)(hl:i∈late:=by decide):qAA P md ops Q S late (fuel+1) listed a w:=qSf i hr hl ho h
theorem dU{listed:Array Bool}{a:Act}{w:World}{fuel:Nat}(h:Q .normal a w)(hr:Region.ready md ops listed=[]:=by kernel_rfl):qAA P md ops Q S late fuel listed a w:=qSl hr h _
end
theorem qIk(v1 v2:Value)(l1 l2:List Int)(w:World)(h1:qAg w v1 l1)(h2:qAg w v2 l2):Calls Tryz.prog 55 #[v1,v2] w fun e w'=>e=.returned (.bool (decide (l1=l2)))/\Below w.heap.size w w':=by
 have H1:=hZ h1;have H2:=hZ h2;obtain⟨a1,c1,rfl,b1,b2⟩:=h1.form;obtain⟨a2,c2,rfl,b3,b4⟩:=h2.form;clear h1 h2;by_cases hl:l1.length=l2.length
 ·have q1:((l1.length:Int)==(l2.length:Int))=true:=by simp[hl]
  have q2:((l1.length:Int) != (l2.length:Int))=false:=by simp[hl]
  have q3:(l1.length==l2.length)=true:=by simp[hl]
  have q4:(l1.length != l2.length)=false:=by simp[hl]
  have HL:=hZ hl;clear hl
  go_enter Tryz.func55,Tryz.ntmps55
  go_wp2_with fail
  go_loopw [5] (fun i wr=>∃j:Nat,j<=l1.length/\i=.int .i64 j/\Hid (l1.take j=l2.take j)/\Hid (Below w.heap.size w wr)) (fun i _=>l1.length-(intOf i).toNat)
  case atStart=>exact⟨0,by omega,rfl,hZ rfl,hZ (Below.refl _ _)⟩
  case round=>
   obtain⟨j,hj,rfl,HT,HB⟩:=hrel;by_cases hlt:j<l1.length
   ·have hlt2:j<l2.length:=by have:=HL.o;omega
    obtain⟨d1,e1,hv1,hb1,n1⟩:=qAg.at_ (H1.o.below HB.o) j hlt;obtain⟨d2,e2,hv2,hb2,n2⟩:=qAg.at_ (H2.o.below HB.o) j hlt2;injection hv1 with f1 f2 f3;injection hv2 with g1 g2 g3;subst f1 g1;clear f2 f3 g2 g3;have HT1:Hid (l1.take (j+1)=l1.take j++[l1[j]]):=hZ (List.take_succ_eq_append_getElem hlt);have HT2:Hid (l2.take (j+1)=l2.take j++[l2[j]]):=hZ (List.take_succ_eq_append_getElem hlt2);have HNo:Hid (l1[j]≠l2[j]->¬l1=l2):=hZ (fun h e=>h (by subst e;rfl));generalize l1[j]=x1 at *;generalize l2[j]=x2 at *;have i1:(0:Int)<=(j:Int):=by omega
    have i2:(j:Int)<(l1.length:Int):=by omega
    have i3:(j:Int)<(l2.length:Int):=by omega
    by_cases hx:x1=x2
    ·have r1:(x1==x2)=true:=by simp[hx]
     have r2:(x1 != x2)=false:=by simp[hx]
     have HX:=hZ hx;clear hx
     go_wp2_with fail
     go_region
     go_wp2_with fail
     go_roundw
     case rel=>exact⟨j+1,by omega,by go_num,hZ (by rw[HT1.o,HT2.o,HT.o,HX.o]),hZ HB.o.drew⟩
     case measure=>simp[intOf];omega
    ·have r1:(x1==x2)=false:=by simp[hx]
     have r2:(x1 != x2)=true:=by simp[hx]
     have HX:=hZ (decide_eq_false (HNo.o hx));clear hx
     go_wp2_with fail
     go_region
     go_wp2_with fail
     go_ret;exact⟨by rw[HX.o];rfl,HB.o.drew⟩
   ·have h9:=HT.o
    rw[List.take_of_length_le (show l1.length<=j by omega),List.take_of_length_le (show l2.length<=j by have:=HL.o;omega)]at h9;have HX:=hZ (decide_eq_true h9);clear h9
    go_wp2_with fail
    go_ret;exact⟨by rw[HX.o];rfl,HB.o⟩
 ·have q1:((l1.length:Int)==(l2.length:Int))=false:=by simp;omega
  have q2:((l1.length:Int) != (l2.length:Int))=true:=by simp;omega
  have q3:(l1.length==l2.length)=false:=by simpa using hl
  have q4:(l1.length != l2.length)=true:=by simpa using hl
  have HX:Hid (decide (l1=l2)=false):=hZ (decide_eq_false (fun e=>hl (by rw[e])));clear hl
  go_enter Tryz.func55,Tryz.ntmps55
  go_wp2_with fail
  go_ret;exact⟨by rw[HX.o];rfl,Below.refl _ _⟩
theorem qKA(v1 v2:Value)(A B:List (List Int))(w0:World)(h1:qA8 w0 v1 A)(h2:qA8 w0 v2 B):Calls Tryz.prog 20 #[v1,v2] w0 fun e w'=>e=.returned (.bool (decide (A=B)))/\Below w0.heap.size w0 w':=by
 have H1:=hZ h1;have H2:=hZ h2;have HB:=hZ (Below.refl w0.heap.size w0);obtain⟨a1,c1,rfl,b1,b2⟩:=h1.form;obtain⟨a2,c2,rfl,b3,b4⟩:=h2.form;clear h1 h2;by_cases hl:A.length=B.length;rotate_left
 ·have q1:((A.length:Int)==(B.length:Int))=false:=by rw[beq_eq_false_iff_ne];omega
  have q2:((A.length:Int) != (B.length:Int))=true:=by simp;omega
  have q3:(A.length==B.length)=false:=by rw[beq_eq_false_iff_ne];omega
  have q4:(A.length != B.length)=true:=by simp;omega
  have HN:=hZ (decide_eq_false (show ¬A=B from fun e=>hl (by rw[e])))
  go_enter Tryz.func20,Tryz.ntmps20
  go_wp2_with fail
  go_ret;exact⟨by rw[HN.o];rfl,HB.o⟩
 have q1:((A.length:Int)==(B.length:Int))=true:=by simp[hl]
 have q2:((A.length:Int) != (B.length:Int))=false:=by simp[hl]
 have q3:(A.length==B.length)=true:=by simp[hl]
 have q4:(A.length != B.length)=false:=by simp[hl]
 have HL:=hZ hl;clear hl
 go_enter Tryz.func20,Tryz.ntmps20
 go_wp2_with fail
 go_loopw [5] (fun i wr=>∃j:Nat,j<=A.length/\i=.int .i64 j/\Hid (A.take j=B.take j)/\Hid (Below w0.heap.size w0 wr)) (fun i _=>A.length-(intOf i).toNat)
 case atStart=>exact⟨0,by omega,rfl,hZ rfl,HB⟩
 case round=>
  clear HB;obtain⟨j,hj,rfl,HT,HB⟩:=hrel;obtain⟨w1,rfl⟩:=eY wr;by_cases hlt:j<A.length;rotate_left
  ·have HA:Hid (A=B):=hZ (by have h1:=HT.o;have h2:=HL.o;rwa [List.take_of_length_le (by omega),List.take_of_length_le (by omega)]at h1)
   go_wp2_with fail
   go_ret;exact⟨by rw[decide_eq_true HA.o];rfl,HB.o⟩
  have hlt2:j<B.length:=by have:=HL.o;omega
  obtain⟨d1,e1,x1,y1,hv1,hb1,n1,K1,g1,g2⟩:=H1.o.at_ j hlt;obtain⟨d2,e2,x2,y2,hv2,hb2,n2,K2,g3,g4⟩:=H2.o.at_ j hlt2;injection hv1 with f1 f2 f3;subst f1;clear f2 f3;injection hv2 with f1 f2 f3;subst f1;clear f2 f3;replace n1:=(HB.o.cell (p:=⟨d1,j,none⟩) hb1).trans n1;replace n2:=(HB.o.cell (p:=⟨d2,j,none⟩) hb2).trans n2;have i1:(0:Int)<=(j:Int):=by omega
  have i2:(j:Int)<(A.length:Int):=by omega
  have i3:(j:Int)<(B.length:Int):=by omega
  have HT1:Hid (A.take (j+1)=A.take j++[A[j]]):=hZ (List.take_succ_eq_append_getElem hlt);have HT2:Hid (B.take (j+1)=B.take j++[B[j]]):=hZ (List.take_succ_eq_append_getElem hlt2);have HNo:Hid (A[j]≠B[j]->¬A=B):=hZ (fun h e=>h (by subst e;rfl));have HK1:=hZ (K1.below HB.o);have HK2:=hZ (K2.below HB.o);have HN1:=hZ n1;have HN2:=hZ n2;have Hb1:=hZ (Nat.lt_of_lt_of_le hb1 HB.o.size);have Hb2:=hZ (Nat.lt_of_lt_of_le hb2 HB.o.size);clear K1 K2 n1 n2 hb1 hb2;generalize A[j]=r1 at *;generalize B[j]=r2 at *
  go_wp2_with fail
  have HD:=hZ (Below.refl w1.heap.size w1);obtain⟨w2,hwd⟩:=eX w1.drew;have hB:=dB hwd;replace HB:=bT HB hB;replace HD:=bT HD hB;clear hB;have HBr:Hid (qAc (fun b=>False) w2 w2):=hZ (qAc.refl _ _);refine qAU [] (fun w'=>qAc (fun b=>False) w2 w') (by kernel_rfl) (by rw[hwd];exact qAc.refl _ _) (fun hHeld=> ?_);rw[hwd]at hHeld ⊢;clear hwd;have f1:w2.cell? ⟨d1,j,none⟩=some (.slice x1 r1.length y1):=(HD.o.cell (p:=⟨d1,j,none⟩) Hb1.o).trans HN1.o;have f2:w2.cell? ⟨d2,j,none⟩=some (.slice x2 r2.length y2):=(HD.o.cell (p:=⟨d2,j,none⟩) Hb2.o).trans HN2.o;have l1:d1<w2.heap.size:=Nat.lt_of_lt_of_le Hb1.o HD.o.size;have l2:d2<w2.heap.size:=Nat.lt_of_lt_of_le Hb2.o HD.o.size;refine pU 0 18 ?_;refine pU 1 19 ?_;refine pU 2 20 ?_;refine tU 3 21 (cF f1 l1) ?_;refine pU 4 22 ?_;refine pU 5 23 ?_;refine pU 6 24 ?_;refine tU 7 25 (cF f2 l2) ?_;clear f1 f2 l1 l2;refine eU 8 fun K hK=> ?_;go_simp;refine(qIk _ _ r1 r2 w2 (HK1.o.below HD.o) (HK2.o.below HD.o)).mono ?_;rintro e w3 ⟨rfl,hB⟩;replace HBr:=oT HBr hB;replace HB:=bT HB hB;replace HD:=bT HD hB;clear hB;refine hK.out _ _ HBr.o (fun hHeld=> ?_);clear hK K
  try simp only[Act.put,sX1,sX2,sX3]
  refine pU 9 6 ?_;refine dU ?_;clear hHeld;by_cases hx:r1=r2
  ·skip
   have HX:=hZ hx;rw[decide_eq_true hx];clear hx
   go_wp2_with fail
   go_roundw
   case rel=>exact⟨j+1,by omega,by go_num,hZ (by rw[HT1.o,HT2.o,HT.o,HX.o]),HB⟩
   case measure=>simp[intOf];omega
  ·skip
   have HX:=hZ (decide_eq_false (HNo.o hx));rw[decide_eq_false hx];clear hx
   go_wp2_with fail
   go_ret;exact⟨by rw[HX.o];rfl,HB.o⟩
theorem qPX(a:Option Addr)(M cap:Nat)(L:List Nat)(w:World)(h:qAd .u32 w (.slice a M cap) L)(hlow:Low W2 L)(hlen:L.length<=4611686018427387904):
 Calls Tryz.prog 136 #[.slice a M cap] w fun e w'=>∃n,e=.returned (.slice a n cap)/\qAd .u32 w (.slice a n cap) (qAm W2 (val W2 L))/\w=w':=by
 have Htake:=hZ (fun n hn=>h.take n hn);obtain⟨a',cap',hv',h1,h2,hc⟩:=h;injection hv' with e1 e2 e3;subst e1 e2 e3;have Hc:=hZ hc;have Hlow:=hZ hlow;clear hc hlow;obtain⟨N,hN⟩:=eX L.length;have HN:=hZ hN;rw[hN]at h1 hlen ⊢;clear hN
 go_enter Tryz.func136,Tryz.ntmps136
 go_wp2
 go_loop [3] (fun i=>∃n:Nat,n<=N/\i=.int .i64 n/\Hid (∀j (h:j<L.length),n<=j->L[j]=0)) (fun i=>(intOf i).toNat)
 case atStart=>exact⟨N,Nat.le_refl _,rfl,hZ (fun j hj hn=>by rw[HN.o]at hj;omega)⟩
 case round=>
  obtain⟨n,hn,rfl,hz⟩:=hrel;have hdone:∀n:Nat,n<=N->(∀j (h:j<L.length),n<=j->L[j]=0)->(∀h:n-1<L.length,n=0\/L[n-1]≠0)->qAd .u32 w (.slice a n cap) (qAm W2 (val W2 L)):=by
   intro n hn hz hl;obtain⟨a',cap',hv,_,_,hr⟩:=Htake.o n (by rw[HN.o];exact hn);rw[HN.o]at hv;injection hv with e1 e2 e3;subst e1 e3;rw[qIf W2 qAk L Hlow.o n (by rw[HN.o];exact hn) hz hl]at hr;exact hr
  have Hd:=hZ hdone;clear hdone;by_cases h0:n=0
  ·subst h0
   go_wp2
   go_ret;exact⟨0,rfl,Hd.o 0 hn hz.o (fun _=> .inl rfl),rfl⟩
  ·have hlt:n-1<L.length:=by rw[HN.o];omega
   obtain⟨b,off,rfl,hb,hcc⟩:=Hc.o (by rw[HN.o];omega);have hcell:=hcc (n-1) hlt;clear hcc;by_cases hzz:L[n-1]=0
   ·have hz2:Hid (∀j (h:j<L.length),n-1<=j->L[j]=0):=hZ (fun j hj hnj=>by
     by_cases e:j=n-1
     ·subst e;exact hzz
     ·exact hz.o j hj (by omega))
    rw[hzz]at hcell;clear hzz
    go_wp2
    go_round
    case rel=>exact⟨n-1,by omega,by go_num,hz2⟩
    case measure=>simp[intOf];omega
   ·have hne:(((L[n-1]:Nat):Int)==0)=false:=by simp;exact hzz
    go_wp2
    go_ret;exact⟨n,rfl,Hd.o n hn hz.o (fun _=> .inr hzz),rfl⟩
theorem qNT(va:Value)(A:List Nat)(d:Nat)(w:World)(ha:qAd .u32 w va A)(hA:Low W2 A)(hd0:0<d)(hd:d<4294967296)(hlen:A.length<=1048576):
 Calls Tryz.prog 139 #[va,.int .u32 (d:Int)] w fun e w'=>∃n,e=.returned (.tuple #[.slice (some ⟨w.heap.size,0,none⟩) n A.length,.int .u32 ((val W2 A%d:Nat):Int)])/\qAd .u32 w' (.slice (some ⟨w.heap.size,0,none⟩) n A.length) (qAm W2 (val W2 A/d))/\Below w.heap.size w w':=by
 obtain⟨i0,hi,hz0,hz1,hz2⟩:=info_parts qE6;have Hi:=hZ hi;have Hz0:=hZ hz0;have Hz1:=hZ hz1;have Hz2:=hZ hz2;clear hi hz0 hz1 hz2;obtain⟨ya,ycap,hvy,y1,y2,hyc⟩:=ha;subst hvy;have Hyc:=hZ hyc;have HlA:=hZ hA;clear hyc hA;obtain⟨N,hN⟩:=eX A.length;have HN:=hZ hN;rw[hN]at hlen y1 ⊢;clear hN
 go_enter Tryz.func139,Tryz.ntmps139
 go_wp2_with (at_make;refine qAD _ rfl _ _ 71 rfl 151 i0 .u32 Tryz.underlying71 Hi.o Hz0.o Hz1.o _ _ _ _ N rfl rfl rfl rfl (by rw[Hz2.o];omega) (by omega) ?_)
 intro w1 hblk hB1 hz1;obtain⟨g,hg⟩:=eX w.heap.size;have Hg:=hZ hg;rw[hg]at hblk hB1 hz1 ⊢;have Hblk1:=hZ hblk;have HB1:=hZ hB1;clear hg hblk hB1
 go_wp2_with fail
 have HI0:=hZ (qOg.start A d N HN.o hd0)
 go_loopw [7,8] (fun rv i wr=>∃(k r:Nat) (L:List Nat),k<=N/\r<d/\rv=.int .u64 (r:Int)/\i=.int .i64 ((k:Int)-1)/\Hid (qOg A d N k r L)/\Hid (Blk wr g 151 .u32 L)/\Hid (Below g w wr)) (fun _ i _=>(intOf i+1).toNat)
 case atStart=>exact⟨N,0,_,by omega,hd0,rfl,rfl,HI0,Hblk1,HB1⟩
 case round=>
  obtain⟨k,r,L,hk,hr,rfl,rfl,hI,hbl,hB⟩:=hrel;have hgw:=hbl.o.lt;by_cases h0:k=0
  ·subst h0
   have hdn:=hI.o.done;have hlen2:=hI.o.len;have Htr:=hZ (qPX (some ⟨g,0,none⟩) N N L wr (by
    have:=qAd.of_blk hbl.o (cap:=N) (by omega) (by omega);rw[hlen2]at this;exact this) hI.o.low (by omega))
   rw[hdn.1]at Htr;have Hr:=hZ hdn.2;clear hdn hlen2
   go_wp2_with (go_at_call 136;refine Htr.o.mono ?_;rintro e w6 ⟨n6,rfl,q1,rfl⟩;have Q1:=hZ q1;clear q1)
   go_ret2
   rw[Hg.o];exact⟨n6,by rw[Hr.o];rfl,Q1.o,hB.o⟩
  ·have hy:k-1<A.length:=by rw[HN.o];omega
   have hkl:k-1<L.length:=by rw[hI.o.len];omega
   obtain⟨b,off,rfl,hb,hcc⟩:=Hyc.o (by omega);rw[Hg.o]at hb;have cy:=(hB.o.cell (p:=⟨b,off+(k-1),none⟩) hb).trans (hcc (k-1) hy);have hyl:A[k-1]<4294967296:=HlA.o _ (List.getElem_mem hy);have Hnext:=hZ (hI.o.next (by omega) hkl hy HlA.o);have hq:=hI.o.quo A[k-1] hyl;have cg:=hbl.o.cell (k-1) hkl;have fg:=hbl.o.frozen (k-1);clear hcc;generalize A[k-1]=y at *;have hor:=qMX r y (by omega) hyl;obtain⟨t,ht⟩:=eX (r*4294967296+y);have ht1:t<=18446744073709551615:=by omega
   rw[show r*W2+y=t from ht]at Hnext hq;rw[ht]at hor;clear ht;have hq2:((t:Int)/(d:Int))=((t/d:Nat):Int):=by omega
   have hm2:((t:Int)%(d:Int))=((t%d:Nat):Int):=by omega
   have Hmod:=hZ (Nat.mod_lt t hd0);generalize t/d=q at *;generalize t%d=m at *;have hq3:q<4294967296:=hq;clear hq
   go_wp2_with fail
   go_roundw
   case rel=>exact⟨k-1,m,_,by omega,Hmod.o,by rw[hm2],by go_num,Hnext,hZ (hbl.o.set (k-1) _),hZ (hB.o.setCell (p:=⟨g,k-1,none⟩) (Nat.le_refl _) _)⟩
   case measure=>simp[intOf];omega
theorem qKZ(va:Value)(m d:Nat)(w:World)(ha:qAK w va m)(hd0:0<d)(hd:d<4294967296)(hl1:(qAm W2 m).length<=1048576):
 Calls Tryz.prog 139 #[va,.int .u32 (d:Int)] w fun e w'=>∃n c,e=.returned (.tuple #[.slice (some ⟨w.heap.size,0,none⟩) n c,.int .u32 ((m%d:Nat):Int)])/\qAK w' (.slice (some ⟨w.heap.size,0,none⟩) n c) (m/d)/\Below w.heap.size w w':=by
 have key:=qNT va _ d w ha (qAv W2 qAk m) hd0 hd hl1;rw[qAu W2 qAk]at key;refine key.mono ?_;rintro e w' ⟨n,he,hr,hB⟩;exact⟨n,_,he,hr,hB⟩
theorem qAd.grown{k:IntKind}{w w':World}{v:Value}{L:List Nat}{row:Option Nat}(h:qAd k w v L)(hg:w.grownBy w' row)(hne:∀b off cap,v=.slice (some ⟨b,off,none⟩) L.length cap->some b≠row):qAd k w' v L:=by
 obtain⟨a,cap,hv,h1,h2,hc⟩:=h;refine⟨a,cap,hv,h1,h2,fun h0=> ?_⟩;obtain⟨b,off,ha,hlt,hcc⟩:=hc h0;exact⟨b,off,ha,Nat.lt_of_lt_of_le hlt hg.size,fun j hj=>(World.cell?_of_block (w:=w) (a:=⟨b,off+j,none⟩) (hg.block b hlt (hne b off cap (by rw[hv,ha])))).trans (hcc j hj)⟩
def qKn(m d:Nat)(w:World)(e:Ending)(w':World):Prop:=
 Below w.heap.size w w'/\∃vq vr,e=.returned (.tuple #[vq,vr])/\qAK w' vq (m/d)/\qAK w' vr (m%d)
theorem qIV(va vb:Value)(m d:Nat)(w:World)(ha:qAK w va m)(hb:qAK w vb d)(hd0:d≠0)(hm:m<LIM)(hd:m<d\/d<W2)(hd2:d<LIM):
 Calls Tryz.prog 113 #[va,vb] w (qKn m d w):=by
 have Ha:=hZ ha;have Hb:=hZ hb;have hla:=(qA6 m).2 hm;have hlb:=(qA6 d).2 hd2;have Hcmp:=hZ (qCi va vb m d w ha hb (by omega) (by omega));obtain⟨aa,ca,rfl,h1,h2,h3⟩:=ha;obtain⟨ab,cb,rfl,h4,h5,h6⟩:=hb;have Hla:=hZ hla;have Hlb:=hZ hlb;have H6:=hZ h6;clear h3 h6 hm hd2 hla hlb;by_cases hlt:m<d
 ·have hc3:qAV (m:Int) (d:Int)= -1:=by unfold qAV;rw[if_pos (by omega)]
  rw[hc3]at Hcmp;have Hlt:=hZ hlt;have Hcl:=hZ (fun n=>qI8 _ m (w.drewN n) Ha.o (by have:=Hla.o;omega));clear hlt hd hc3 H6;generalize (qAm W2 m).length=M at *;generalize (qAm W2 d).length=N at *
  go_enter Tryz.func113,Tryz.ntmps113
  go_wp2_with fail
  refine wp_scope_straight ?_
  go_wp2_with fail
  refine Hcmp.o.mono ?_;rintro e w' ⟨rfl,k,rfl⟩
  go_wp2_with fail
  refine(Hcl.o k).mono ?_;rintro e w1 ⟨a1,l1,c1,rfl,hm1,hB⟩;have HB:=hZ (Below.trans (show Below w.heap.size w (w.drewN k)from⟨rfl,rfl,rfl,Nat.le_refl _,fun _ _=>rfl⟩) hB);have Hm1:=hZ hm1;clear hB hm1 Hcl Hcmp
  go_wp2
  refine bodyPost_ret (v:=.tuple #[.slice none 0 0,.slice a1 l1 c1]) (by simp[results,Tryz.results113,go_sem]) rfl ⟨HB.o,_,_,rfl,?_,?_⟩
  ·rw[Nat.div_eq_of_lt Hlt.o]
   unfold qAK;rw[qA3];exact qAd.nil _ _ (by omega)
  ·rw[Nat.mod_eq_of_lt Hlt.o];exact Hm1.o
 ·have hd4:=hd.resolve_left hlt
  have hdl:qAm W2 d=[d]:=by
   rw[qBt W2 d qAk hd0,Nat.div_eq_of_lt hd4,qA3,Nat.mod_eq_of_lt hd4]
  have Hdf:=hZ (fun n=>qKZ _ m d (w.drewN n) Ha.o (by omega) (by omega) (by have:=Hla.o;omega));have hc3:¬(qAV (m:Int) (d:Int)<0):=by
   unfold qAV;rw[if_neg (by omega)]
   split<;>simp
  generalize qAV (m:Int) (d:Int)=C at *;obtain⟨b,off,rfl,hbl,hcell⟩:=H6.o (by rw[hdl];simp);have hcd:∀n,(w.drewN n).cell? ⟨b,off,none⟩=some (.int .u32 (d:Int)):=fun n=>by
   have h7:=hcell 0 (by rw[hdl];simp);rw[Nat.add_zero]at h7
   show w.cell? _=_
   rw[h7];simp[hdl]
  have hdl1:(qAm W2 d).length=1:=by rw[hdl];rfl
  rw[hdl1]at Hb Hcmp Hlb h4 ⊢;have Hcd:=hZ hcd;have Hd4:=hZ hd4;have Hd0:=hZ hd0;clear hcd hcell H6 hdl hdl1 hd hlt hd4 hd0;generalize (qAm W2 m).length=M at *
  go_enter Tryz.func113,Tryz.ntmps113
  go_wp2_with fail
  refine wp_scope_straight ?_
  go_wp2_with fail
  refine Hcmp.o.mono ?_;rintro e w' ⟨rfl,k,rfl⟩;have hcd:=Hcd.o k
  go_wp2_with fail
  refine(Hdf.o k).mono ?_;rintro e w1 ⟨QL,qc,rfl,hm1,hB⟩;have HB:=hZ (Below.trans (show Below w.heap.size w (w.drewN k)from⟨rfl,rfl,rfl,Nat.le_refl _,fun _ _=>rfl⟩) hB);have Hm1:=hZ hm1;have z1:=HB.o.size;obtain⟨r,hr⟩:=eX (m%d);have hrl:r<4294967296:=by rw[<-hr];exact Nat.lt_trans (Nat.mod_lt _ (Nat.pos_of_ne_zero Hd0.o)) Hd4.o
  have Hr:=hZ hr;rw[hr];clear hB hm1 Hdf Hcmp hcd hr
  go_wp2_with fail
  have hblk:Blk (w1.alloc (.cells #[.int .u32 (r:Int)] 151)) w1.heap.size 151 .u32 [r]:=heap_alloc_new w1 _;refine(qCI (.slice (some ⟨w1.heap.size,0,none⟩) 1 1) [r] _ (qAd.of_blk hblk (by simp) (by simp)) (fun x hx=>by rw[List.mem_singleton.1 hx];exact hrl) (by simp)).mono ?_;rintro e w2 ⟨v2,rfl,hr2,rfl⟩;have hv1:val W2 [r]=r:=by simp[val]
  rw[hv1]at hr2;have Hr2:=hZ hr2;obtain⟨a2,c2,rfl,_,_,_⟩:=hr2;clear hblk hv1
  go_wp2
  refine bodyPost_ret (v:=.tuple #[.slice (some ⟨w.heap.size,0,none⟩) QL qc,.slice a2 (qAm W2 r).length c2]) (by simp[results,Tryz.results113,go_sem]) rfl ⟨HB.o.alloc z1 _,_,_,rfl,?_,?_⟩
  ·exact qAd.below Hm1.o (Nat.le_refl _) aR
  ·rw[Hr.o];exact Hr2.o
end Go.Proofs.YtkjhlkngihponaaGreatDoor
