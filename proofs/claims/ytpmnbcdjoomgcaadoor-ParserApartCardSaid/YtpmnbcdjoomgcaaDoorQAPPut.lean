/- The printer's put, option, pairs, part. -/
import Derived.Test.YtpmnbcdjoomgcaaDoorQAPText
import Derived.Test.YtpmnbcdjoomgcaaDoorQAPChk2
import Derived.Test.YtpmnbcdjoomgcaaDoorQAShelf
import Derived.Lib.ItoaMem
set_option linter.unusedVariables false
set_option linter.unusedSimpArgs false
set_option maxHeartbeats 4000000
set_option maxRecDepth 100000
namespace Go.Proofs.YtpmnbcdjoomgcaaDoor

abbrev Pk:=Nat->Int->Int
def qB4:List Bs:=[[105,114,111,110],[103,111,108,100],[97,49],[116,105,109,101],[105,116,101,109],[111,102],[120,95,50],[116,97,107,101]]
def qDB:List Int:=[1,2,30,0,1099511627776]
def qDC(p:Pk)(i:Nat):Bs:=qB4.getD (p i 8).toNat []
def qJC(p:Pk)(i:Nat):Int:=qDB.getD (p i 5).toNat 0
def qB3(p:Pk):Nat->Nat->List Pr
 |0,_=>[]
 |k+1,i=>⟨qJC p i,qDC p (i+1),0⟩::qB3 p k (i+2)
def qIA(p:Pk)(i:Nat):Nat:=(p i 4).toNat
def qBC(p:Pk)(i:Nat):List Pr:=qB3 p (qIA p i) (i+1)
def qBm(p:Pk)(i:Nat):Nat:=i+1+2*qIA p i
def qKO(p:Pk)(i:Nat):List Pr:=⟨p i 20,[],0⟩::qBC p (i+1)
def qBL(p:Pk):Nat->Nat->List (List Pr)
 |0,_=>[]
 |k+1,i=>qKO p i::qBL p k (qBm p (i+1))
def qAP(p:Pk):Nat->Nat->Nat
 |0,i=>i
 |k+1,i=>qAP p k (qBm p (i+1))
def qDq(p:Pk):Nat->Nat->List (Int×Int)
 |0,_=>[]
 |k+1,i=>(p i 1000,p (i+1) 10001)::qDq p k (i+2)
def qC6(p:Pk)(i:Nat)(d:Dc):Dc:={ d with object:=p (i+2) 2==0,mixed:=p (i+3) 3==0,coin:=p (i+4) 3==0,wear:=([0,5,1000]:List Int).getD (p (i+5) 3).toNat 0,bind:=p (i+6) 3,level:=p (i+7) 3 }
def qCa(p:Pk)(i:Nat)(d:Dc):Dc:={ d with level:=p (i+2) 3,time:=([0,7]:List Int).getD (p (i+3) 2).toNat 0,chance:=p (i+4) 3,of_:=p (i+5) 12,take:=qBC p (i+6),give:=qBC p (qBm p (i+6)),back:=qBC p (qBm p (qBm p (i+6))) }
def qEj(p:Pk)(i:Nat)(d:Dc):Dc:={ d with rows:=qBL p ((p (i+2) 3).toNat+1) (i+3) }
def qGs(p:Pk)(i:Nat)(d:Dc):Dc:={ d with brs:=qDq p ((p (i+2) 3).toNat+1) (i+3) }
def qBi(p:Pk)(i:Nat):Dc:=
 let d:=Dc.zero (p i 5) (qDC p (i+1)) 0
 if p i 5=0 then qC6 p i d else if p i 5<=2 then qCa p i d else if p i 5=3 then qEj p i d else qGs p i d
def qBh(p:Pk)(i:Nat):Nat:=
 if p i 5=0 then i+8 else if p i 5<=2 then qBm p (qBm p (qBm p (i+6)))else if p i 5=3 then qAP p ((p (i+2) 3).toNat+1) (i+3)else i+3+2*((p (i+2) 3).toNat+1)
def qA0(p:Pk):Nat->Nat->List Dc
 |0,_=>[]
 |k+1,i=>qBi p i::qA0 p k (qBh p i)
def qEk(p:Pk):List Dc:=qA0 p (p 0 6).toNat 1
def qG6(p:Pk):Prop:=∀i m,0<m->0<=p i m/\p i m<m
theorem qGZ{α:Type}(l:List α)(k:Nat)(d:α)(h:k<l.length):l.getD k d∈l:=by
 rw[List.getD_eq_getElem?_getD,List.getElem?_eq_getElem h];exact List.getElem_mem h
theorem qJp:∀x∈qB4,qBt x=true/\x.length<=4:=by decide +kernel
theorem qKg:∀x∈qDB,qAj x=true:=by decide +kernel
theorem qFR{p:Pk}(h:qG6 p)(i:Nat):qBt (qDC p i)=true/\(qDC p i).length<=4:=by
 have:=h i 8 (by omega);exact qJp _ (qGZ _ _ _ (by show _<8;omega))
theorem qJB{p:Pk}(h:qG6 p)(i:Nat):qAj (qJC p i)=true:=by
 have:=h i 5 (by omega);exact qKg _ (qGZ _ _ _ (by show _<5;omega))
theorem qAV{n:Int}:qAj n=true ↔ 0<=n/\n<=1099511627776:=by simp[qAj]
def ShL(l:List Pr):Prop:=l.length<=3/\qAJ l=true/\okL l=true/\∀x∈l,x.name.length<=4
theorem ShL.nil:ShL []:=⟨by simp,rfl,rfl,nofun⟩
theorem qFQ(p:Pk):∀k i,(qB3 p k i).length=k
 |0,_=>rfl
 |k+1,i=>by simp[qB3,qFQ p k]
theorem qGX{p:Pk}(h:qG6 p):∀k i,qAJ (qB3 p k i)=true/\okL (qB3 p k i)=true/\∀x∈qB3 p k i,x.name.length<=4
 |0,_=>⟨rfl,rfl,nofun⟩
 |k+1,i=>by
  obtain⟨h1,h2,h3⟩:=qGX h k (i+2);have hn:=qFR h (i+1);have hm:=qJB h i;refine⟨?_,?_,?_⟩
  ·unfold qAJ at h1 ⊢
   rw[qB3,List.all_cons,hn.1,h1];rfl
  ·unfold okL at h2 ⊢
   rw[qB3,List.all_cons,hm,h2];rfl
  ·intro x hx
   rw[qB3]at hx;rcases List.mem_cons.1 hx with rfl|hx
   ·exact hn.2
   ·exact h3 x hx
theorem qCl{p:Pk}(h:qG6 p)(i:Nat):ShL (qBC p i):=by
 obtain⟨h1,h2,h3⟩:=qGX h (qIA p i) (i+1);refine⟨?_,h1,h2,h3⟩;have:=h i 4 (by omega);unfold qBC;rw[qFQ];unfold qIA;omega
def ShR(r:List Pr):Prop:=∃n l,r=⟨n,[],0⟩::l/\qAj n=true/\ShL l
theorem qFP{p:Pk}(h:qG6 p):∀k i,(qBL p k i).length=k/\∀r∈qBL p k i,ShR r
 |0,_=>⟨rfl,nofun⟩
 |k+1,i=>by
  obtain⟨h1,h2⟩:=qFP h k (qBm p (i+1));refine⟨by simp[qBL,h1],fun r hr=> ?_⟩;rw[qBL]at hr;rcases List.mem_cons.1 hr with rfl|hr
  ·have:=h i 20 (by omega)
   exact⟨_,_,rfl,qAV.2 (by omega),qCl h _⟩
  ·exact h2 r hr
theorem qGY{p:Pk}(h:qG6 p):∀k i,(qDq p k i).length=k/\∀r∈qDq p k i,qAj r.1=true/\qAj r.2=true
 |0,_=>⟨rfl,nofun⟩
 |k+1,i=>by
  obtain⟨h1,h2⟩:=qGY h k (i+2);refine⟨by simp[qDq,h1],fun r hr=> ?_⟩;rw[qDq]at hr;rcases List.mem_cons.1 hr with rfl|hr
  ·have:=h i 1000 (by omega)
   have:=h (i+1) 10001 (by omega);exact⟨qAV.2 (by simp only[];omega),qAV.2 (by simp only[];omega)⟩
  ·exact h2 r hr
structure Gd(d:Dc):Prop where
 err:qFk d=0
 nam:d.name.length<=4
 tk:ShL d.take
 gv:ShL d.give
 bk:ShL d.back
 rl:d.rows.length<=3
 rw:∀r∈d.rows,ShR r
 bl:d.brs.length<=3
 num:qAj d.wear=true/\qAj d.level=true/\qAj d.time=true/\qAj d.chance=true/\qAj d.of_=true
 bok:∀r∈d.brs,qAj r.1=true/\qAj r.2=true
theorem ShR.named{r:List Pr}(h:ShR r):qAJ r.tail=true/\okL r=true/\qEt r=true:=by
 obtain⟨n,l,rfl,h1,h2⟩:=h;refine⟨h2.2.1,?_,rfl⟩;have:=h2.2.2.1;unfold okL at this ⊢;rw[List.all_cons,this,h1];rfl
theorem Gd.of{d:Dc}(hs:qAN d=true)(nm:qBt d.name=true)(nam:d.name.length<=4)(tk:ShL d.take)(gv:ShL d.give)(bk:ShL d.back)(rl:d.rows.length<=3)(rw:∀r∈d.rows,ShR r)(bl:d.brs.length<=3)
 (num:qAj d.wear=true/\qAj d.level=true/\qAj d.time=true/\qAj d.chance=true/\qAj d.of_=true)(bok:∀r∈d.brs,qAj r.1=true/\qAj r.2=true):Gd d:=by
 refine⟨?_,nam,tk,gv,bk,rl,rw,bl,num,bok⟩;have hn:qDL d=true:=by
  unfold qDL;rw[nm,tk.2.1,gv.2.1,bk.2.1];simp only[Bool.and_self,Bool.true_and];rw[List.all_eq_true];exact fun r hr=>(rw r hr).named.1
 have hr:qBs d=true:=by
  unfold qBs;rw[num.1,num.2.1,num.2.2.1,num.2.2.2.1,num.2.2.2.2,tk.2.2.1,gv.2.2.1,bk.2.2.1];simp only[Bool.and_self,Bool.true_and,Bool.and_eq_true,List.all_eq_true];exact⟨fun r hr=>(rw r hr).named.2.1,fun r hr=>bok r hr⟩
 unfold qFk;rw[hs,hn,hr];rfl
theorem qK9{p:Pk}(h:qG6 p)(i:Nat):p i 3=0\/p i 3=1\/p i 3=2:=by
 have:=h i 3 (by omega);omega
theorem qIz{p:Pk}(h:qG6 p)(i:Nat):Gd (qBi p i):=by
 have hk:=h i 5 (by omega);have hn:=qFR h (i+1);unfold qBi;by_cases h0:p i 5=0
 ·simp only[h0,if_true]
  have hw:qAj (([0,5,1000]:List Int).getD (p (i+5) 3).toNat 0)=true:=by
   rcases qK9 h (i+5)with e|e|e<;>rw[e]<;>decide
  have hb:=h (i+6) 3 (by omega);have hl:=h (i+7) 3 (by omega);refine Gd.of ?_ hn.1 hn.2 ShL.nil ShL.nil ShL.nil (by simp[qC6,Dc.zero]) (by simp[qC6,Dc.zero]) (by simp[qC6,Dc.zero]) ⟨hw,qAV.2 (by simp only[qC6];omega),rfl,rfl,rfl⟩ (by simp[qC6,Dc.zero]);simp[qAN,qC6,Dc.zero,qB9];omega
 ·simp only[h0,if_false]
  by_cases h2:p i 5<=2
  ·simp only[h2,if_true]
   have h12:p i 5=1\/p i 5=2:=by omega
   have hl:=h (i+2) 3 (by omega);have ht:=h (i+3) 2 (by omega);have ht:qAj (([0,7]:List Int).getD (p (i+3) 2).toNat 0)=true:=by
    have:p (i+3) 2=0\/p (i+3) 2=1:=by omega
    rcases this with e|e<;>rw[e]<;>decide
   have hc:=h (i+4) 3 (by omega);have ho:=h (i+5) 12 (by omega);refine Gd.of ?_ hn.1 hn.2 (qCl h _) (qCl h _) (qCl h _) (by simp[qCa,Dc.zero]) (by simp[qCa,Dc.zero]) (by simp[qCa,Dc.zero]) ⟨rfl,qAV.2 (by simp only[qCa];omega),ht,qAV.2 (by simp only[qCa];omega),qAV.2 (by simp only[qCa];omega)⟩ (by simp[qCa,Dc.zero]);simp[qAN,qCa,Dc.zero,qBK,h0,h12]
  ·simp only[h2,if_false]
   have hc:=h (i+2) 3 (by omega);by_cases h3:p i 5=3
   ·simp only[h3,if_true]
    obtain⟨hr1,hr2⟩:=qFP h ((p (i+2) 3).toNat+1) (i+3);refine Gd.of ?_ hn.1 hn.2 ShL.nil ShL.nil ShL.nil (by simp only[qEj];omega) hr2 (by simp[qEj,Dc.zero]) ⟨rfl,rfl,rfl,rfl,rfl⟩ (by simp[qEj,Dc.zero]);have hne:(qBL p ((p (i+2) 3).toNat+1) (i+3)).isEmpty=false:=by rw[List.isEmpty_eq_false_iff];intro e;rw[e]at hr1;simp at hr1
    have hall:(qBL p ((p (i+2) 3).toNat+1) (i+3)).all qEt=true:=by rw[List.all_eq_true];exact fun r hr=>(hr2 r hr).named.2.2
    simp[qAN,qEj,Dc.zero,qBK,qB9];exact⟨by simpa using hne,by simpa using hall⟩
   ·simp only[h3,if_false]
    have h4:p i 5=4:=by omega
    obtain⟨hr1,hr2⟩:=qGY h ((p (i+2) 3).toNat+1) (i+3);refine Gd.of ?_ hn.1 hn.2 ShL.nil ShL.nil ShL.nil (by simp[qGs,Dc.zero]) (by simp[qGs,Dc.zero]) (by simp only[qGs];omega) ⟨rfl,rfl,rfl,rfl,rfl⟩ hr2;have hne:(qDq p ((p (i+2) 3).toNat+1) (i+3)).isEmpty=false:=by rw[List.isEmpty_eq_false_iff];intro e;rw[e]at hr1;simp at hr1
    simp[qAN,qGs,Dc.zero,qBK,qB9,h4];simpa using hne
theorem qEP{p:Pk}(h:qG6 p):∀k i,(qA0 p k i).length=k/\∀d∈qA0 p k i,Gd d
 |0,_=>⟨rfl,nofun⟩
 |k+1,i=>by
  obtain⟨h1,h2⟩:=qEP h k (qBh p i);refine⟨by simp[qA0,h1],fun r hr=> ?_⟩;rw[qA0]at hr;rcases List.mem_cons.1 hr with rfl|hr
  ·exact qIz h i
  ·exact h2 r hr
theorem qFh{p:Pk}(h:qG6 p):(qEk p).length<=5/\∀d∈qEk p,Gd d:=by
 obtain⟨h1,h2⟩:=qEP h (p 0 6).toNat 1;have:=h 0 6 (by omega);exact⟨by unfold qEk;omega,h2⟩
theorem qAi{n:Int}(h:qAj n=true):(qAm n).length<=13:=by
 have:=qAV.1 h;exact qHK _ 13 (by omega) (by omega)
theorem qE5:∀(l:List Pr) (b:Bool),okL l=true->(∀x∈l,x.name.length<=4)->(prL b l).length<=20*l.length
 |[],_,_,_=>by simp[prL]
 |p::l,b,h1,h2=>by
  have h3:=qE5 l true (by unfold okL at h1 ⊢;rw[List.all_cons,Bool.and_eq_true]at h1;exact h1.2) (fun x hx=>h2 x (by simp[hx]));have h4:=qAi (n:=p.n) (by unfold okL at h1;rw[List.all_cons,Bool.and_eq_true]at h1;exact h1.1);have h5:=h2 p (by simp);rw[prL];cases b<;>simp<;>omega
theorem qDi{l:List Pr}(h:ShL l)(w:Bs):(qAB w l).length<=61+w.length:=by
 unfold qAB
 split
 ·simp
 ·have:=qE5 l false h.2.2.1 h.2.2.2
  have:=h.1;simp;omega
theorem qBo{n:Int}(h:qAj n=true)(w:Bs):(qAz w n).length<=15+w.length:=by
 unfold qAz
 split
 ·simp
 ·have:=qAi h
  simp;omega
theorem qCr(w:Bs)(b:Bool):(qB0 w b).length<=1+w.length:=by cases b<;>simp[qB0];omega
theorem qCs(n:Int):(qBb n).length<=9:=by
 unfold qBb
 split
 ·decide
 ·split<;>decide
theorem qDw{n m:Int}(h:qAj n=true)(h':qAj m=true):(qAl n m).length<=38:=by
 unfold qAl
 split
 ·simp
 ·have:=qAi h
  have:=qAi h';simp[qAL,wOf];omega
theorem qDh:∀(l:List (List Pr)) (b:Bool),(∀r∈l,ShR r)->(qAr b l).length<=77*l.length
 |[],_,_=>by simp[qAr]
 |r::l,b,h=>by
  have h1:=qDh l true (fun x hx=>h x (by simp[hx]));obtain⟨n,m,rfl,h2,h3⟩:=h r (by simp);have h4:=qE5 m false h3.2.2.1 h3.2.2.2;have h5:=qAi h2;have h6:=h3.1;rw[qAr];simp only[qFN,List.tail_cons];cases b<;>simp<;>omega
theorem qD4:∀(l:List (Int×Int)) (b:Bool),(∀r∈l,qAj r.1=true/\qAj r.2=true)->(qBa b l).length<=30*l.length
 |[],_,_=>by simp[qBa]
 |r::l,b,h=>by
  have h1:=qD4 l true (fun x hx=>h x (by simp[hx]));obtain⟨h2,h3⟩:=h r (by simp);have h4:=qAi h2;have h5:=qAi h3;rw[qBa];cases b<;>simp<;>omega
theorem qJa(l:List Bs)(k:Nat):(qHi l k).length=l.flatten.length:=by
 unfold qHi
 conv=>rhs;rw[<-List.take_append_drop k l]
 rw[List.flatten_append,List.flatten_append,List.length_append,List.length_append,Nat.add_comm]
theorem Gd.len{d:Dc}(h:Gd d)(k:Nat):(qBw d k).length<=400:=by
 have hk:(qAo.getD d.kind.toNat []).length<=5:=by
  have:∀i:Fin 6,(qAo.getD i.1 []).length<=5:=by decide
  by_cases hi:d.kind.toNat<5
  ·exact this ⟨d.kind.toNat,by omega⟩
  ·rw[List.getD_eq_getElem?_getD,List.getElem?_eq_none (by show 5<=_;omega)];simp
 have hp:(qAf d).flatten.length<=380:=by
  obtain⟨n1,n2,n3,n4,n5⟩:=h.num;unfold qAf
  split
  ·have a1:=qCr qAQ d.object
   have a2:=qCr qBf d.mixed;have a3:=qCr qCc d.coin;have a4:=qBo n1 qDb;have a5:=qCs d.bind;have a6:=qBo n2 qAO;simp[qAQ,qBf,qCc,qDb,qAO]at a1 a2 a3 a4 a6;simp[qAQ,qBf,qCc,qDb,qAO];omega
  ·split
   ·have a1:=qBo n2 qAO
    have a2:=qBo n3 qCS;have a3:=qDw n4 n5;have a4:=qDi h.tk qDc;have a5:=qDi h.gv qDe;have a6:=qDi h.bk qDf;simp[qAO,qCS,qDc,qDe,qDf]at a1 a2 a4 a5 a6;simp[qAO,qCS,qDc,qDe,qDf];omega
   ·have a1:=qDh d.rows false h.rw
    have a2:=qD4 d.brs false h.bok;have a3:=h.rl;have a4:=h.bl;simp;omega
 have:=h.nam;unfold qBw;simp only[List.length_append,List.length_cons,List.length_nil,qJa];omega
theorem qCT:∀l:List (Dc×Nat),(∀x∈l,Gd x.1)->(qAZ l).length<=400*l.length
 |[],_=>by simp[qAZ]
 |x::l,h=>by
  have h1:=qCT l (fun y hy=>h y (by simp[hy]));have h2:=(h x (by simp)).len x.2
  show(qBw x.1 x.2++qAZ l).length<=_
  simp;omega
open Go.RowKit
theorem qGc{P:Program}{w:World}{B k bytes:Nat}{t e:TypeId}(hE:qDT P t e k bytes)(ty:TypeId)(v:Value)(n:Nat)(xs:List Value)(hown:w.ownsRow B e k v n xs)(a:Option Addr)(m c:Nat)(us:List Value)(hl:us.length=m*k)
 (hcell:∀ad,a=some ad->∀j u,us[j]? =some u->w.cell? (ad.add j)=some u)(h0:0<m->∃ad,a=some ad)(h1:∀u∈us,u.oneCell'=true)(hn:n+m<=1000000000)(hby:bytes<=1000)(hle:B<=w.heap.size):
 ∃v' w',(Builtin.append_ #[t,t] ty #[v,.slice a m c]).run P w=.ok v' w'/\w'.ownsRow B e k v' (n+m) (xs++us)/\w.grownBy w' v.ownBlock:=by
 obtain⟨ht,i,z,hi,hz,hsize,hbyt,hzs,hk⟩:=hE;have hcap:(n+m)*bytes<=140737488355328:=Nat.le_trans (Nat.mul_le_mul hn hby) (by decide);rcases Nat.eq_zero_or_pos m with hm|hm
 ·subst hm
  have hus:us=[]:=List.eq_nil_of_length_eq_zero (by omega);subst hus;refine⟨v,w,?_,by simpa using hown,⟨rfl,rfl,rfl,Nat.le_refl _,fun _ _ _=>rfl⟩⟩;rcases hown.2 with ⟨rfl,rfl⟩|⟨g,cap,cur,rfl,_,_,hnc,_⟩
  ·cases a<;>simp[Builtin.append_,run_underlying ht,sizeOf,typeInfo,hi,Builtin.lenOf,Builtin.firstCells,loadCells,loadCellsFrom,storeCells]
  ·cases a<;>simp[Builtin.append_,run_underlying ht,sizeOf,typeInfo,hi,Builtin.lenOf,Builtin.firstCells,loadCells,loadCellsFrom,hnc,storeCells]
 ·obtain⟨ad,rfl⟩:=h0 hm
  obtain⟨v',w',h2,h3,h4,-⟩:=run_append_own (P:=P) w B t ty e i z k bytes ht hi hz hsize hbyt hzs hk v n xs hown ad m c us hl (hcell ad rfl) h1 (by unfold maxLen;omega) hcap hle;exact⟨v',w',h2,h3,h4⟩
theorem qDu{P:Program}{W0 w:World}{ops:Array Oper}{o:Oper}{a:Act}{K:Act->World->Prop}{Q:Exit->Act->World->Prop}{E:Prop}{B k bytes:Nat}{t e:TypeId}(hE:qDT P t e k bytes)(hgd:o.guard=none)(s x:Operand)
 (ho:o.op=.call { callee:=.builtin .append,args:=#[s,x],argTypes:=#[t,t] })(v:Value)(n:Nat)(xs:List Value)(hs:a.eval s=v)(hown:w.ownsRow B e k v n xs)(ao:Option Addr)(m c:Nat)(us:List Value)(hx:a.eval x=.slice ao m c)(hl:us.length=m*k)
 (hcell:∀ad,ao=some ad->∀j u,us[j]? =some u->w.cell? (ad.add j)=some u)(h0:0<m->∃ad,ao=some ad)(h1:∀u∈us,u.oneCell'=true)(hn:n+m<=1000000000)(hby:bytes<=1000)(hle:B<=w.heap.size)(hB:Below B W0 w)
 (h:∀v' w',Hid (w'.ownsRow B e k v' (n+m) (xs++us))->Hid (Below B W0 w')->Hid (qAg (fun b=>v.ownBlock=some b) w w')->K (a.put o.dst v') w'):
 if Region.wanted o (yielded ops a.tmps)=true then Oper.wp P o a w K Q else E:=by
 have hw:Region.wanted o (yielded ops a.tmps)=true:=by simp[Region.wanted,hgd]
 rw[if_pos hw];obtain⟨v',w',hr,h2,h3⟩:=qGc hE o.type v n xs hown ao m c us hl hcell h0 h1 hn hby hle;have hO:=qBv h3;unfold Oper.wp execOp;simp only[ho,resolve,invoke,builtin,Sem.run_bind,Sem.run_pure,Result.andThen_ok,List.map_toArray,List.map_cons,List.map_nil,hs,hx,hr];exact h v' w' (hZ h2) (hZ (hO.below hB hle (fun k e=>(hown.lt k e).1))) (hZ hO)
theorem qAU.vals{e et:TypeId}{w:World}{a:Option Addr}{n c:Nat}{l:List (List Pr)}(h:qAU e et w (.slice a n c) l):∃us,us.length=l.length/\n=l.length/\qDN e w us l/\(0<l.length->∃b off,a=some ⟨b,off,none⟩)/\(∀ad,a=some ad->∀j u,us[j]? =some u->w.cell? (ad.add j)=some u)/\∀u∈us,u.oneCell'=true:=by
 obtain⟨a',cap,hv,h2,h3,h4⟩:=h;injection hv with e1 e2 e3;subst e1 e2 e3;rcases Nat.eq_zero_or_pos l.length with h0|h0
 ·have hl:l=[]:=List.eq_nil_of_length_eq_zero h0
  subst hl;exact⟨[],rfl,rfl,qDN.nil _ _,fun h=>by simp at h,fun _ _ j u h=>by simp at h,by simp⟩
 ·obtain⟨b,off,cs,rfl,h6,h7⟩:=h4 (fun e=>by rw[e]at h0;simp at h0)
  have key:∀j (hj:j<l.length),∃u,cs[off+j]? =some u/\qAD e w u l[j]:=fun j hj=>by
   obtain⟨es,⟨u,rfl,hu⟩, -,h10⟩:=h7 j hj;exact⟨u,by simpa using h10 0 (by omega),hu⟩
  let us:=(List.range l.length).map (fun j=>(cs[off+j]?).getD undef)
  have hul:us.length=l.length:=by simp[us]
  have hu:∀j (hj:j<us.length),cs[off+j]? =some us[j]:=fun j hj=>by
   obtain⟨u,h1,-⟩:=key j (by rw[<-hul];exact hj);simp only[us,List.getElem_map,List.getElem_range,h1,Option.getD_some]
  refine⟨us,hul,rfl,⟨hul,fun j h1 h2=> ?_⟩,fun _=>⟨b,off,rfl⟩,fun ad he j u hj=> ?_,fun u hm=> ?_⟩
  ·obtain⟨u,h8,h9⟩:=key j h1
   have:=hu j h2;rw[h8]at this;injection this with this;rw[<-this];exact h9
  ·injection he with he
   subst he;obtain⟨hj1,rfl⟩:=List.getElem?_eq_some_iff.1 hj;rw[qG5,cell_of_row w b _ cs et (0,0) h6];exact hu j hj1
  ·obtain⟨j,hj,rfl⟩:=List.mem_iff_getElem.1 hm
   obtain⟨u,h8,h9⟩:=key j (by rw[<-hul];exact hj);have:=hu j hj;rw[h8]at this;injection this with this;rw[<-this];obtain⟨a1,c1,rfl, -,-⟩:=TSl.form h9;rfl
theorem qJW{l:List Pr}(h:okL l=true)(k:Nat)(hk:k<l.length):qAj l[k].n=true:=by
 unfold okL at h;rw[List.all_eq_true]at h;exact h _ (List.getElem_mem hk)
theorem qDN.app{e:TypeId}{w:World}{us vs:List Value}{l m:List (List Pr)}(h:qDN e w us l)(h':qDN e w vs m):qDN e w (us++vs) (l++m):=by
 refine⟨by simp[h.1,h'.1],fun j h1 h2=> ?_⟩;have hl:=h.1;by_cases hj:j<l.length
 ·rw[List.getElem_append_left hj,List.getElem_append_left (by omega)]
  exact h.2 j hj (by omega)
 ·rw[List.getElem_append_right (by omega),List.getElem_append_right (by omega)]
  simp only[hl];exact h'.2 _ _ _
def qG7(w:World)(B:Nat)(v:Value)(M:Nat):Prop:=∃xs:List Int,w.ownsRow B 3 1 v xs.length (xs.map (Value.int .i64))/\(∀x∈xs,qAj x=true)/\xs.length<=M
theorem qG7.kp{w w':World}{B M:Nat}{v:Value}{X:List TypeId}(h:qG7 w B v M)(hk:KpX X w w')(hx:3∉X):qG7 w' B v M:=by
 obtain⟨xs,h1,h2⟩:=h;exact⟨xs,qBJ h1 hk hx,h2⟩
theorem qG7.mono{w:World}{B M M':Nat}{v:Value}(h:qG7 w B v M)(hm:M<=M'):qG7 w B v M':=by
 obtain⟨xs,h1,h2,h3⟩:=h;exact⟨xs,h1,h2,by omega⟩
theorem qG7.form{w:World}{B M:Nat}{v:Value}(h:qG7 w B v M):∃(xs:List Int) (aa:Option Addr) (cc:Nat),v=.slice aa xs.length cc/\(∀x∈xs,qAj x=true)/\xs.length<=M/\(∀j (hj:j<xs.length),∃gg,aa=some ⟨gg,0,none⟩/\gg<w.heap.size/\w.cell? ⟨gg,j,none⟩=some (.int .i64 xs[j])):=by
 obtain⟨xs,h1,h2,h3⟩:=h;rcases h1.2 with ⟨hv,h0⟩|⟨gg,cc,cur,hv,_,hh,_⟩
 ·exact⟨xs,none,0,by rw[hv,h0],h2,h3,fun j hj=>by omega⟩
 ·refine⟨xs,_,cc,hv,h2,h3,fun j hj=>⟨gg,rfl,qAq hh,?_⟩⟩
  rw[hv]at h1;rw[h1.cellAt j (by omega)];simp[hj]
theorem qJV{d:Dc}(h:qBs d=true):(qAj d.wear=true/\qAj d.level=true/\qAj d.time=true/\qAj d.chance=true/\qAj d.of_=true)/\(okL d.take=true/\okL d.give=true/\okL d.back=true)/\(∀r∈d.rows,okL r=true)/\∀b∈d.brs,qAj b.1=true/\qAj b.2=true:=by
 unfold qBs at h;simp only[Bool.and_eq_true,List.all_eq_true]at h;obtain⟨⟨⟨⟨⟨⟨⟨⟨⟨h1,h2⟩,h3⟩,h4⟩,h5⟩,h6⟩,h7⟩,h8⟩,h9⟩,h10⟩:=h;exact⟨⟨h1,h2,h3,h4,h5⟩,⟨h6,h7,h8⟩,h9,h10⟩
theorem qHD(d:Dc)(y:Ls)(w:World)(g o:Nat)(h:DPt w g o d y)(hn:qBs d=true)(hl:DL 10000 d):
 Calls Tryd.prog 58 #[.pointer (some ⟨g,o,none⟩)] w fun e w'=>e=.returned (.bool true)/\Below w.heap.size w w':=by
 obtain⟨hns,hls,hrs,hbs⟩:=qJV hn;have H0:=hZ h;obtain⟨t1,t2,eyt, -,-⟩:=TSl.form h.ls.t;obtain⟨g1,g2,eyg, -,-⟩:=TSl.form h.ls.g;obtain⟨b1,b2,eyb, -,-⟩:=TSl.form h.ls.b;obtain⟨r1,r2,eyr, -,-⟩:=TSl.form h.ls.r;obtain⟨x1,x2,eyx, -,-⟩:=TSl.form h.ls.x;obtain⟨rn,hrn⟩:=eX d.rows.length;obtain⟨xn,hxn⟩:=eX d.brs.length;have c6:w.cell? ⟨g,o+6,none⟩=some (.int .i64 d.wear):=h.row 6 _ rfl;have c8:w.cell? ⟨g,o+8,none⟩=some (.int .i64 d.level):=h.row 8 _ rfl;have c9:w.cell? ⟨g,o+9,none⟩=some (.int .i64 d.time):=h.row 9 _ rfl;have c10:w.cell? ⟨g,o+10,none⟩=some (.int .i64 d.chance):=h.row 10 _ rfl;have c11:w.cell? ⟨g,o+11,none⟩=some (.int .i64 d.of_):=h.row 11 _ rfl;obtain⟨w1,hw1⟩:=eX (w.drew.alloc (.cells #[.int .i64 d.wear,.int .i64 d.level,.int .i64 d.time,.int .i64 d.chance,.int .i64 d.of_] 3));have hB1:Below w.heap.size w w1:=by rw[<-hw1];exact(qAc w).trans (qAa w.drew _)
 have hz1:w1.heap.size=w.heap.size+1:=by rw[<-hw1];simp
 have HO1:Hid (w1.ownsRow w.heap.size 3 1 (.slice (some ⟨w.heap.size,0,none⟩) 5 5) 5 [.int .i64 d.wear,.int .i64 d.level,.int .i64 d.time,.int .i64 d.chance,.int .i64 d.of_]):=hZ (by rw[<-hw1];exact World.ownsRow_lit w.drew #[.int .i64 d.wear,.int .i64 d.level,.int .i64 d.time,.int .i64 d.chance,.int .i64 d.of_] 5 (Nat.le_refl _) (by unfold maxLen;omega) rfl);have HN1:Hid (qG7 w1 w.heap.size (.slice (some ⟨w.heap.size,0,none⟩) 5 5) 5):=hZ ⟨[d.wear,d.level,d.time,d.chance,d.of_],HO1.o,by intro x hx;simp at hx;rcases hx with rfl|rfl|rfl|rfl|rfl;exact hns.1;exact hns.2.1;exact hns.2.2.1;exact hns.2.2.2.1;exact hns.2.2.2.2,by simp⟩;have H1:=hZ (h.below hB1);obtain⟨b,hb⟩:=eX w1.heap.size;have c12:w1.cell? ⟨g,o+12,none⟩=some (.slice t1 d.take.length t2):=by have:=H1.o.row 12 _ rfl;rw[this,eyt]
 have c13:w1.cell? ⟨g,o+13,none⟩=some (.slice g1 d.give.length g2):=by have:=H1.o.row 13 _ rfl;rw[this,eyg]
 have c14:w1.cell? ⟨g,o+14,none⟩=some (.slice b1 d.back.length b2):=by have:=H1.o.row 14 _ rfl;rw[this,eyb]
 have c15:w1.cell? ⟨g,o+15,none⟩=some (.slice r1 rn r2):=by have:=H1.o.row 15 _ rfl;rw[this,eyr,hrn]
 obtain⟨w2,hw2⟩:=eX (w1.drew.alloc (.cells #[.slice t1 d.take.length t2,.slice g1 d.give.length g2,.slice b1 d.back.length b2] 58));have hB2:Below w1.heap.size w1 w2:=by rw[<-hw2];exact(qAc w1).trans (qAa w1.drew _)
 have H2:=hZ (H1.o.below hB2);have HO2:Hid (w2.ownsRow b 58 1 (.slice (some ⟨b,0,none⟩) 3 3) 3 [.slice t1 d.take.length t2,.slice g1 d.give.length g2,.slice b1 d.back.length b2]):=hZ (by rw[<-hw2,<-hb];exact World.ownsRow_lit w1.drew #[.slice t1 d.take.length t2,.slice g1 d.give.length g2,.slice b1 d.back.length b2] 3 (Nat.le_refl _) (by unfold maxLen;omega) rfl);have HN2:=hZ (HN1.o.kp (KpX.of_below (X:=[]) hB2) (by simp));have HB2:=hZ (hB1.trans (hB2.mono hB1.size));have HZ2:Hid (b<=w2.heap.size/\w.heap.size<=b):=hZ ⟨by rw[<-hb];exact hB2.size,by omega⟩;have d12:w2.cell? ⟨g,o+12,none⟩=some (.slice t1 d.take.length t2):=by have:=H2.o.row 12 _ rfl;rw[this,eyt]
 have d13:w2.cell? ⟨g,o+13,none⟩=some (.slice g1 d.give.length g2):=by have:=H2.o.row 13 _ rfl;rw[this,eyg]
 have d14:w2.cell? ⟨g,o+14,none⟩=some (.slice b1 d.back.length b2):=by have:=H2.o.row 14 _ rfl;rw[this,eyb]
 have d15:w2.cell? ⟨g,o+15,none⟩=some (.slice r1 rn r2):=by have:=H2.o.row 15 _ rfl;rw[this,eyr,hrn]
 have HR2:Hid (qAU 68 58 w2 (.slice r1 rn r2) d.rows):=hZ (by have:=H2.o.ls.r;rw[eyr,hrn]at this;exact this);have HX2:Hid (qCA w2 (.slice x1 xn x2) d.brs):=hZ (by have:=H2.o.ls.x;rw[eyx,hxn]at this;exact this);have HV3:Hid (qDN 68 w2 [.slice t1 d.take.length t2,.slice g1 d.give.length g2,.slice b1 d.back.length b2] [d.take,d.give,d.back]):=hZ ((((qDN.nil 68 w2).snoc (by rw[<-eyt];exact H2.o.ls.t)).snoc (by rw[<-eyg];exact H2.o.ls.g)).snoc (by rw[<-eyb];exact H2.o.ls.b));have Hyx:Hid (y.x=.slice x1 xn x2):=hZ (by rw[eyx,hxn]);have HLs:=hZ hls;have HRs:=hZ hrs;have HBs:=hZ hbs;have HL:=hZ hl;have Hrn:=hZ hrn;have Hxn:=hZ hxn;have hrm:rn<=10000:=by have:=hl.2.2.2.1;omega
 have hxm:xn<=10000:=by have:=hl.2.2.2.2.1;omega
 clear hz1 h hn hl hns hls hrs hbs eyt eyg eyb eyr eyx hrn hxn hB1 HO1 HN1 H1 hB2
 go_enter Tryd.func58,Tryd.ntmps58
 go_wp2_with fail
 refine qAs [20,21] (fun W=>W.cell? ⟨g,o+6,none⟩=some (.int .i64 d.wear)/\W.cell? ⟨g,o+8,none⟩=some (.int .i64 d.level)/\W.cell? ⟨g,o+9,none⟩=some (.int .i64 d.time)/\W.cell? ⟨g,o+10,none⟩=some (.int .i64 d.chance)/\W.cell? ⟨g,o+11,none⟩=some (.int .i64 d.of_)) (by kernel_rfl) (⟨c6,c8,c9,c10,c11⟩) (fun hHeld=> ?_);refine pU 0 12 ?_;refine pU 1 13 ?_;refine pU 2 14 ?_;refine qAb 3 15 (v:= ?_) rfl rfl (by kernel_rfl) (by kernel_rfl) (by kernel_rfl) (by kernel_rfl) (by kernel_rfl) (fun _ _ _ h=>h) (by rfl) ?_ (by assumption) ?_;rotate_left
 ·(intro w hSw;go_simp;first|done|with_reducible rfl)
 simp only[sX1,sX2,sX3];refine pU 4 16 ?_;refine pU 5 17 ?_;refine pU 6 18 ?_;refine qAb 7 19 (v:= ?_) rfl rfl (by kernel_rfl) (by kernel_rfl) (by kernel_rfl) (by kernel_rfl) (by kernel_rfl) (fun _ _ _ h=>h) (by rfl) ?_ (by assumption) ?_;rotate_left
 ·(intro w hSw;go_simp;first|done|with_reducible rfl)
 simp only[sX1,sX2,sX3];refine pU 8 20 ?_;refine pU 9 21 ?_;refine pU 10 22 ?_;refine qAb 11 23 (v:= ?_) rfl rfl (by kernel_rfl) (by kernel_rfl) (by kernel_rfl) (by kernel_rfl) (by kernel_rfl) (fun _ _ _ h=>h) (by rfl) ?_ (by assumption) ?_;rotate_left
 ·(intro w hSw;go_simp;first|done|with_reducible rfl)
 simp only[sX1,sX2,sX3];refine pU 12 24 ?_;refine pU 13 25 ?_;refine pU 14 26 ?_;refine qAb 15 27 (v:= ?_) rfl rfl (by kernel_rfl) (by kernel_rfl) (by kernel_rfl) (by kernel_rfl) (by kernel_rfl) (fun _ _ _ h=>h) (by rfl) ?_ (by assumption) ?_;rotate_left
 ·(intro w hSw;go_simp;first|done|with_reducible rfl)
 simp only[sX1,sX2,sX3];refine pU 16 28 ?_;refine pU 17 29 ?_;refine pU 18 30 ?_;refine qAb 19 31 (v:= ?_) rfl rfl (by kernel_rfl) (by kernel_rfl) (by kernel_rfl) (by kernel_rfl) (by kernel_rfl) (fun _ _ _ h=>h) (by rfl) ?_ (by assumption) ?_;rotate_left
 ·(intro w hSw;go_simp;first|done|with_reducible rfl)
 simp only[sX1,sX2,sX3];refine lU 20 fun K hK=> ?_;go_simp;refine hK.out _ _ ?_;clear hK K
 try simp only[Act.put,sX1,sX2,sX3]
 refine lU 21 fun K hK=> ?_;go_simp;refine hK.out _ _ ?_;clear hK K
 try simp only[Act.put,sX1,sX2,sX3]
 refine dU ?_;clear hHeld hw1 c6 c8 c9 c10 c11
 go_wp2_with fail
 refine qAs [17,18] (fun W=>W.cell? ⟨g,o+12,none⟩=some (.slice t1 d.take.length t2)/\W.cell? ⟨g,o+13,none⟩=some (.slice g1 d.give.length g2)/\W.cell? ⟨g,o+14,none⟩=some (.slice b1 d.back.length b2)/\W.cell? ⟨g,o+15,none⟩=some (.slice r1 rn r2)) (by kernel_rfl) (⟨c12,c13,c14,c15⟩) (fun hHeld=> ?_);refine pU 0 33 ?_;refine pU 1 34 ?_;refine pU 2 35 ?_;refine qAb 3 36 (v:= ?_) rfl rfl (by kernel_rfl) (by kernel_rfl) (by kernel_rfl) (by kernel_rfl) (by kernel_rfl) (fun _ _ _ h=>h) (by rfl) ?_ (by assumption) ?_;rotate_left
 ·(intro w hSw;go_simp;first|done|with_reducible rfl)
 simp only[sX1,sX2,sX3];refine pU 4 37 ?_;refine pU 5 38 ?_;refine pU 6 39 ?_;refine qAb 7 40 (v:= ?_) rfl rfl (by kernel_rfl) (by kernel_rfl) (by kernel_rfl) (by kernel_rfl) (by kernel_rfl) (fun _ _ _ h=>h) (by rfl) ?_ (by assumption) ?_;rotate_left
 ·(intro w hSw;go_simp;first|done|with_reducible rfl)
 simp only[sX1,sX2,sX3];refine pU 8 41 ?_;refine pU 9 42 ?_;refine pU 10 43 ?_;refine qAb 11 44 (v:= ?_) rfl rfl (by kernel_rfl) (by kernel_rfl) (by kernel_rfl) (by kernel_rfl) (by kernel_rfl) (fun _ _ _ h=>h) (by rfl) ?_ (by assumption) ?_;rotate_left
 ·(intro w hSw;go_simp;first|done|with_reducible rfl)
 simp only[sX1,sX2,sX3];refine pU 13 46 ?_;refine pU 14 47 ?_;refine pU 15 48 ?_;refine qAb 16 49 (v:= ?_) rfl rfl (by kernel_rfl) (by kernel_rfl) (by kernel_rfl) (by kernel_rfl) (by kernel_rfl) (fun _ _ _ h=>h) (by rfl) ?_ (by assumption) ?_;rotate_left
 ·(intro w hSw;go_simp;first|done|with_reducible rfl)
 simp only[sX1,sX2,sX3];refine pU 19 52 ?_;refine eU 12 fun K hK=> ?_;go_simp;clear hw2 hHeld
 go_wp2_with fail
 refine hK.out _ _ (⟨d12,d13,d14,d15⟩) (fun hHeld=> ?_);clear hK K
 try simp only[Act.put,sX1,sX2,sX3]
 clear hHeld c12 c13 c14 c15 d12 d13 d14 d15;obtain⟨us,u1,u2,u3,u4,u5,u6⟩:=HR2.o.vals;refine lU 17 fun K hK=> ?_;refine qDu (W0:=w2) qGw rfl _ _ rfl _ 3 _ rfl HO2.o r1 rn r2 us rfl (by rw[u1];omega) u5 (fun h0=>by obtain⟨bb,oo,hh⟩:=u4 (by omega);exact⟨_,hh⟩) u6 (by omega) (by omega) HZ2.o.1 (Below.refl _ _) ?_;intro v3 w3 HO3 HB3 HF3;obtain⟨g3,cap3,rfl,-⟩:=HO3.o.form (by omega);have hK3:KpX [58] w2 w3:=KpX.own HO2.o HF3.o (by simp);have HN3:=hZ (HN2.o.kp hK3 (by decide));have HV4:=hZ ((HV3.o.app u3).kp hK3 (by decide));have HB4:Hid (Below w.heap.size w w3):=hZ (HB2.o.trans (HB3.o.mono HZ2.o.2));obtain⟨N3,hN3⟩:=eX (3+rn);rw[hN3]at HO3;rw[hN3];obtain⟨VS,hVS⟩:∃l,[.slice t1 d.take.length t2,.slice g1 d.give.length g2,.slice b1 d.back.length b2]++us=l:=⟨_,rfl⟩;obtain⟨LS,hLS⟩:∃l,[d.take,d.give,d.back]++d.rows=l:=⟨_,rfl⟩;rw[hVS]at HO3 HV4;rw[hLS]at HV4;have HLn:Hid (N3=LS.length):=hZ (by rw[<-hLS,<-hN3,<-Hrn.o];simp;omega);have HLok:Hid (∀l∈LS,okL l=true/\l.length<=10000):=hZ (by
  intro l hl;rw[<-hLS]at hl;rcases List.mem_append.1 hl with hl|hl
  ·simp only[List.mem_cons,List.not_mem_nil,or_false]at hl
   rcases hl with rfl|rfl|rfl
   ·exact⟨HLs.o.1,HL.o.1⟩
   ·exact⟨HLs.o.2.1,HL.o.2.1⟩
   ·exact⟨HLs.o.2.2,HL.o.2.2.1⟩
  ·exact⟨HRs.o l hl,HL.o.2.2.2.2.2 l hl⟩)
 have hNm:N3<=10003:=by omega
 clear u1 u2 u3 u4 u5 u6 hK3 HF3 HB3 HO2 HV3 HN2 HR2 HX2 H2 HB2 HZ2 hVS hLS hN3 HLs HRs hrm;refine hK.out _ _ ?_;clear hK K
 try simp only[Act.put,sX1,sX2,sX3]
 refine pU 18 51 ?_;refine dU ?_
 go_wp2_with fail
 go_loopw [3,52] (fun nv iv wr=>∃j:Nat,j<=N3/\iv=.int .i64 j/\Hid (qG7 wr w.heap.size nv (5+10000*j))/\Hid (KpX [3] w3 wr)/\Hid (Below w.heap.size w wr)) (fun _ iv _=>N3-(intOf iv).toNat)
 case atStart=>exact⟨0,by omega,rfl,HN3,hZ (KpX.refl _ _),HB4⟩
 case round=>
  clear HN3 HB4;obtain⟨j,hj,rfl,HN,HK,HB⟩:=hrel;by_cases hlt:j<N3
  ·have h1:j<LS.length:=by have:=HLn.o;omega
   have HOw:wr.ownsRow b 58 1 (.slice (some ⟨g3,0,none⟩) N3 cap3) N3 VS:=qBJ HO3.o HK.o (by decide);have h2:j<VS.length:=by have:=HV4.o.1;omega
   have hP:=(HV4.o.2 j h1 h2).kp HK.o (by decide);have q3:wr.cell? ⟨g3,j,none⟩=some VS[j]:=by rw[HOw.cellAt j (by omega)];exact List.getElem?_eq_getElem h2
   obtain⟨hok,hln⟩:=HLok.o _ (List.getElem_mem h1);obtain⟨l,hl⟩:=eX (LS[j]);obtain⟨u,hu⟩:=eX (VS[j]);rw[hl]at hP hok hln;rw[hu]at hP q3;obtain⟨a9,c9,rfl, -,-⟩:=TSl.form hP;obtain⟨n,hn⟩:=eX l.length;have HUL:=hZ hP;have HOk:=hZ hok;have Hn:=hZ hn;rw[hn]at q3 hln;have hm0:(0:Int)<=(j:Int):=by omega
   have hm1:(j:Int)<(N3:Int):=by omega
   clear hP hok hl hu hn HOw h1 h2
   go_wp2_with fail
   clear q3;obtain⟨wo,hwo⟩:∃W,W=wr:=⟨_,rfl⟩;subst hwo
   go_loopw [3,58] (fun nv iv wr=>∃k:Nat,k<=n/\iv=.int .i64 k/\Hid (qG7 wr w.heap.size nv (5+10000*j+k))/\Hid (KpX [3] wo wr)/\Hid (Below w.heap.size w wr)) (fun _ iv _=>n-(intOf iv).toNat)
   case atStart=>exact⟨0,by omega,rfl,HN,hZ (KpX.refl _ _),HB⟩
   case round=>
    clear HN HB;obtain⟨k,hk,rfl,HN,HK5,HB⟩:=hrel;by_cases hkn:k<n
    ·have h1:k<l.length:=by have:=Hn.o;omega
     obtain⟨gp,op,cp,hv,y0,y1,y2⟩:=qAD.nth (HUL.o.kp HK5.o (by decide)) k h1;injection hv with hv hq1 hv2;subst hv hv2;have hnm:=qJW HOk.o k h1;obtain⟨p,hp⟩:=eX (l[k]);rw[hp]at y0 y1 y2 hnm;obtain⟨w5,hw5⟩:=eX (wr.alloc (.cells #[.int .i64 p.n,.string ⟨p.name.toArray⟩,.int .i64 p.at_] 68));have hB5:Below wr.heap.size wr w5:=by rw[<-hw5];exact qAa _ _
     have z5:w5.cell? ⟨wr.heap.size,0,none⟩=some (.int .i64 p.n):=by rw[<-hw5];simp
     obtain⟨xs,hx1,hx2,hx3⟩:=HN.o.kp (KpX.of_below (X:=[]) hB5) (by simp);have HX1:=hZ hx1;have HX2:Hid (∀x∈xs++[p.n],qAj x=true):=hZ (fun x hx=>by rcases List.mem_append.1 hx with hx|hx;exact hx2 x hx;rw[List.mem_singleton.1 hx];exact hnm);have HB5:=hZ (HB.o.trans (hB5.mono HB.o.size));have HK55:=hZ (HK5.o.trans (KpX.of_below (X:=[3]) hB5));have hm2:(0:Int)<=(k:Int):=by omega
     have hm3:(k:Int)<(n:Int):=by omega
     have hz5:w.heap.size<=w5.heap.size:=HB5.o.size;clear hp hq1 h1 hnm hB5 hx1 hx2 HN HB HK5
     go_wp2_with (at_builtin;refine qA5 (W0:=w5) qIF rfl _ _ rfl [.int .i64 p.n] 3 _ _ _ rfl rfl rfl (by simp[Value.oneCell']) HX1.o (Below.refl _ _) hz5 (by omega) (by omega) ?_)
     intro g6 cap6 w6 HO6 HB6 HF6 hcap6 hat6;have HK6:=hZ (HK55.o.trans (KpX.own (X:=[3]) HX1.o HF6.o (by simp)));have HN6:Hid (qG7 w6 w.heap.size (.slice (some ⟨g6,0,none⟩) (xs.length+1) cap6) (5+10000*j+(k+1))):=hZ ⟨xs++[p.n],by have:=HO6.o;simpa using this,HX2.o,by simp;omega⟩;have HB7:=hZ (HB5.o.trans HB6.o);clear HX1 HX2 HB5 HK55 HO6 HB6 HF6 hw5 z5 y0 y1 y2 hcap6 hat6 hz5
     go_wp2_with fail
     exact⟨⟨k+1,by omega,by go_num,HN6,HK6,HB7⟩,by simp[intOf];omega⟩
    ·have hm3:¬(k:Int)<(n:Int):=by omega
     have HN6:=hZ (HN.o.mono (show 5+10000*j+k<=5+10000*(j+1) by omega));have HK6:=hZ (HK.o.trans HK5.o);clear HN
     go_wp2_with fail
     exact⟨⟨j+1,by omega,by go_num,HN6,HK6,HB⟩,by simp[intOf];omega⟩
  ·have hm1:¬(j:Int)<(N3:Int):=by omega
   have HX9:Hid (qCA wr (.slice x1 xn x2) d.brs):=hZ (by have:=(H0.o.below HB.o).ls.x;rw[Hyx.o]at this;exact this);have c16:wr.cell? ⟨g,o+16,none⟩=some (.slice x1 xn x2):=by have:=(H0.o.below HB.o).row 16 _ rfl;rw[this,Hyx.o]
   have HN9:=hZ (HN.o.mono (show 5+10000*j<=5+10000*10003 by omega));clear HN HK
   go_wp2_with fail
   clear c16;obtain⟨wo,hwo⟩:∃W,W=wr:=⟨_,rfl⟩;subst hwo
   go_loopw [3,74] (fun nv iv wr=>∃k:Nat,k<=xn/\iv=.int .i64 k/\Hid (qG7 wr w.heap.size nv (5+10000*10003+2*k))/\Hid (KpX [3] wo wr)/\Hid (Below w.heap.size w wr)) (fun _ iv _=>xn-(intOf iv).toNat)
   case atStart=>exact⟨0,by omega,rfl,HN9,hZ (KpX.refl _ _),HB⟩
   case round=>
    clear HN9 HB;obtain⟨k,hk,rfl,HN,HK5,HB⟩:=hrel;by_cases hkn:k<xn
    ·have h1:k<d.brs.length:=by have:=Hxn.o;omega
     obtain⟨gp,op,cp,hv,y0,y1⟩:=qCA.nth (HX9.o.kp HK5.o (by decide)) k h1;injection hv with hv hq1 hv2;subst hv hv2;have hnm:=HBs.o _ (List.getElem_mem h1);obtain⟨p,hp⟩:=eX (d.brs[k]);rw[hp]at y0 y1 hnm;obtain⟨w5,hw5⟩:=eX (wr.alloc (.cells #[.int .i64 p.1,.int .i64 p.2] 76));have hB5:Below wr.heap.size wr w5:=by rw[<-hw5];exact qAa _ _
     have z5:w5.cell? ⟨wr.heap.size,0,none⟩=some (.int .i64 p.1):=by rw[<-hw5];simp
     have z6:w5.cell? ⟨wr.heap.size,1,none⟩=some (.int .i64 p.2):=by rw[<-hw5];simp
     obtain⟨w6,hw6⟩:=eX (w5.alloc (.cells #[.int .i64 p.1,.int .i64 p.2] 3));have hB6:Below w5.heap.size w5 w6:=by rw[<-hw6];exact qAa _ _
     have hnews:∀j u,([.int .i64 p.1,.int .i64 p.2]:List Value)[j]? =some u->w6.cell? ((⟨w5.heap.size,0,none⟩:Addr).add j)=some u:=by rw[<-hw6];exact qF0 w5 _ _
     have hB56:=hB5.trans (hB6.mono hB5.size);obtain⟨xs,hx1,hx2,hx3⟩:=HN.o.kp (KpX.of_below (X:=[]) hB56) (by simp);have HX1:=hZ hx1;have HX2:Hid (∀x∈xs++[p.1,p.2],qAj x=true):=hZ (fun x hx=>by rcases List.mem_append.1 hx with hx|hx;exact hx2 x hx;simp at hx;rcases hx with rfl|rfl;exact hnm.1;exact hnm.2);have HB5:=hZ (HB.o.trans (hB56.mono HB.o.size));have HK55:=hZ (HK5.o.trans (KpX.of_below (X:=[3]) hB56));have hm2:(0:Int)<=(k:Int):=by omega
     have hm3:(k:Int)<(xn:Int):=by omega
     have hz5:w.heap.size<=w6.heap.size:=HB5.o.size;clear hp hq1 h1 hnm hB5 hB6 hB56 hx1 hx2 HN HB HK5
     go_wp2_with (at_builtin;refine qCF (W0:=w6) qIF rfl _ _ rfl _ _ _ rfl ⟨w5.heap.size,0,none⟩ 2 2 [.int .i64 p.1,.int .i64 p.2] rfl rfl hnews (by simp[Value.oneCell']) HX1.o (Below.refl _ _) hz5 (by omega) (by omega) ?_)
     intro v7 w7 HO6 HB6 HF6;have HK6:=hZ (HK55.o.trans (KpX.own (X:=[3]) HX1.o HF6.o (by simp)));have HN6:Hid (qG7 w7 w.heap.size v7 (5+10000*10003+2*(k+1))):=hZ ⟨xs++[p.1,p.2],by have:=HO6.o;simpa using this,HX2.o,by simp;omega⟩;have HB7:=hZ (HB5.o.trans HB6.o);clear HX1 HX2 HB5 HK55 HO6 HB6 HF6 hw5 hw6 z5 z6 y0 y1 hz5 hnews
     go_wp2_with fail
     exact⟨⟨k+1,by omega,by go_num,HN6,HK6,HB7⟩,by simp[intOf];omega⟩
    ·have hm3:¬(k:Int)<(xn:Int):=by omega
     obtain⟨xs,aa,cc,hv9,hx2,hx3,hx4⟩:=HN.o.form;subst hv9;have HX2:=hZ hx2;have HX4:=hZ hx4;obtain⟨nn,hnn⟩:=eX xs.length;have Hnn:=hZ hnn;rw[hnn]at hx3;rw[hnn];clear hx2 hx4 hnn HN
     go_wp2_with fail
     obtain⟨wq,hwq⟩:∃W,W=wr:=⟨_,rfl⟩;subst hwq
     go_loopw [88] (fun iv wr=>∃k:Nat,k<=nn/\iv=.int .i64 k/\Hid (Below wq.heap.size wq wr)) (fun iv _=>nn-(intOf iv).toNat)
     case atStart=>exact⟨0,by omega,rfl,hZ (Below.refl _ _)⟩
     case round=>
      obtain⟨k9,hk9,rfl,HW⟩:=hrel;by_cases hk8:k9<nn
      ·have h1:k9<xs.length:=by have:=Hnn.o;omega
       obtain⟨gg,rfl,hgl,hce⟩:=HX4.o k9 h1;have hok:=qAV.1 (HX2.o _ (List.getElem_mem h1));have y0:=(HW.o.cell (p:=⟨gg,k9,none⟩) hgl).trans hce;obtain⟨x,hx⟩:=eX (xs[k9]);rw[hx]at y0 hok;have hp1:¬x<0:=by omega
       have hp2:¬x>1099511627776:=by omega
       have hp3:¬1099511627776<x:=by omega
       have hm4:(0:Int)<=(k9:Int):=by omega
       have hm5:(k9:Int)<(nn:Int):=by omega
       clear hok hce hx h1
       go_wp2_with fail
       exact⟨⟨k9+1,by omega,by go_num,HW⟩,by simp[intOf];omega⟩
      ·have hm5:¬(k9:Int)<(nn:Int):=by omega
       have HF:=hZ (HB.o.trans (HW.o.mono HB.o.size))
       go_wp2_with fail
       go_ret;exact⟨rfl,HF.o⟩
theorem qEQ{d:Dc}(h:qFk d=0):qAN d=true/\qDL d=true/\qBs d=true:=qBE h
theorem qE0{d:Dc}(h:qAN d=true):∀r∈d.rows,qEt r=true:=by
 unfold qAN at h
 split at h
 ·intro r hr
  simp only[Bool.and_eq_true,List.isEmpty_iff]at h;rw[h.1.1.1.2]at hr;cases hr
 ·split at h
  ·intro r hr
   simp only[Bool.and_eq_true,List.isEmpty_iff]at h;rw[h.1.2]at hr;cases hr
  ·split at h
   ·simp only[Bool.and_eq_true,List.all_eq_true]at h
    exact h.2
   ·split at h
    ·intro r hr
     simp only[Bool.and_eq_true,List.isEmpty_iff]at h;rw[h.1.2]at hr;cases hr
    ·cases h
theorem qBF{α:Type}{l:List α}(h:l.isEmpty=true):l.length=0:=by rw[List.isEmpty_iff.1 h];rfl
theorem qEU(d:Dc)(y:Ls)(w:World)(g o:Nat)(h:DPt w g o d y)(hs:qAN d=true)(hl:DL 10000 d):
 Calls Tryd.prog 56 #[.pointer (some ⟨g,o,none⟩)] w fun e w'=>e=.returned (.bool true)/\Below w.heap.size w w':=by
 obtain⟨t1,t2,eyt, -,-⟩:=TSl.form h.ls.t;obtain⟨g1,g2,eyg, -,-⟩:=TSl.form h.ls.g;obtain⟨b1,b2,eyb, -,-⟩:=TSl.form h.ls.b;obtain⟨r1,r2,eyr, -,-⟩:=TSl.form h.ls.r;obtain⟨x1,x2,eyx, -,-⟩:=TSl.form h.ls.x;have hR:=h.ls.r;rw[eyr]at hR;obtain⟨l1,l2,l3,l4,l5,-⟩:=hl;refine qKC d.kind ⟨d.name.toArray⟩ d.at_ d.object d.mixed d.coin d.wear d.bind d.level d.time d.chance d.of_ t1 g1 b1 r1 x1 d.take.length t2 d.give.length g2 d.back.length b2 d.rows.length r2 d.brs.length x2 w g o d.rows hR (qE0 hs) (by omega)
  (h.row 0 _ rfl) (h.row 1 _ rfl) (h.row 2 _ rfl) (h.row 3 _ rfl) (h.row 4 _ rfl) (h.row 5 _ rfl) (h.row 6 _ rfl) (h.row 7 _ rfl) (h.row 8 _ rfl) (h.row 9 _ rfl) (h.row 10 _ rfl) (h.row 11 _ rfl)
  (by have:=h.row 12 _ rfl;rw[this,eyt]) (by have:=h.row 13 _ rfl;rw[this,eyg]) (by have:=h.row 14 _ rfl;rw[this,eyb]) (by have:=h.row 15 _ rfl;rw[this,eyr]) (by have:=h.row 16 _ rfl;rw[this,eyx]) ?_
 unfold qAN at hs
 split at hs
 ·next hk=>
  simp only[qB9,Bool.and_eq_true,Bool.not_eq_true',Bool.or_eq_false_iff,bne_eq_false_iff_eq,Bool.not_eq_false',decide_eq_true_eq]at hs;obtain⟨⟨⟨⟨⟨⟨⟨⟨⟨h1,h2⟩,h3⟩,h4⟩,h5⟩,h6⟩,h7⟩,h8⟩,h9⟩,h10⟩:=hs;exact .inl ⟨hk,h1,h2,h3,qBF h4,qBF h5,qBF h6,qBF h7,qBF h8,h9,h10⟩
 ·split at hs
  ·next hk=>
   simp only[qBK,Bool.and_eq_true,Bool.not_eq_true',Bool.or_eq_false_iff,bne_eq_false_iff_eq]at hs;obtain⟨⟨⟨⟨⟨⟨h1,h2⟩,h3⟩,h4⟩,h5⟩,h6⟩,h7⟩:=hs;exact .inr (.inl ⟨hk,h1,h2,h3,h4,h5,qBF h6,qBF h7⟩)
  ·split at hs
   ·next hk=>
    simp only[qBK,qB9,Bool.and_eq_true,Bool.not_eq_true',Bool.or_eq_false_iff,bne_eq_false_iff_eq,Bool.not_eq_false',beq_iff_eq]at hs;obtain⟨⟨⟨⟨⟨⟨⟨⟨⟨h1,h2⟩,h3⟩,h4⟩,h5⟩,⟨⟨⟨⟨k1,k2⟩,k3⟩,k4⟩,k5⟩,k6⟩,h6⟩,h7⟩,h8⟩,h9⟩:=hs;refine .inr (.inr (.inl ⟨hk,h1,h2,h3,h4,h5,k1,k2,k3,qBF k4,qBF k5,qBF k6,h6,qBF h7,?_⟩));cases hd:d.rows with
    |nil=>rw[hd]at h8;cases h8
    |cons _ _=>simp
   ·split at hs
    ·next hk=>
     simp only[qBK,qB9,Bool.and_eq_true,Bool.not_eq_true',Bool.or_eq_false_iff,bne_eq_false_iff_eq,Bool.not_eq_false',beq_iff_eq]at hs;obtain⟨⟨⟨⟨⟨⟨⟨⟨h1,h2⟩,h3⟩,h4⟩,h5⟩,⟨⟨⟨⟨k1,k2⟩,k3⟩,k4⟩,k5⟩,k6⟩,h6⟩,h7⟩,h8⟩:=hs;refine .inr (.inr (.inr ⟨hk,h1,h2,h3,h4,h5,k1,k2,k3,qBF k4,qBF k5,qBF k6,h6,qBF h7,?_⟩));cases hd:d.brs with
     |nil=>rw[hd]at h8;cases h8
     |cons _ _=>simp
    ·cases hs
theorem qJK(d:Dc)(y:Ls)(w:World)(g o:Nat)(h:DPt w g o d y)(he:qFk d=0)(hl:DL 10000 d)(hK:qA2 w):
 Calls Tryd.prog 29 #[.pointer (some ⟨g,o,none⟩)] w fun e w'=>e=.returned (.int .i64 0)/\Below w.heap.size w w':=by
 obtain⟨h1,h2,h3⟩:=qEQ he;have H:=hZ h;have HK:=hZ hK;have HL:=hZ hl;have H2:=hZ h2;have H3:=hZ h3;have HR:=hZ (qE0 h1);have HC:=hZ (qEU d y w g o h h1 hl);clear h he hl hK h1 h2 h3
 go_enter Tryd.func29,Tryd.ntmps29
 go_wp2_with fail
 refine HC.o.mono ?_;rintro e w1 ⟨rfl,hB1⟩;have HB1:=hZ hB1;have HC1:=hZ (qJq d y w1 g o (H.o.below hB1) H2.o HR.o HL.o (HK.o.below hB1 HK.o.lt));clear hB1 HC
 go_wp2_with fail
 refine HC1.o.mono ?_;rintro e w2 ⟨rfl,hB2⟩;have HB2:=hZ (HB1.o.trans (hB2.mono HB1.o.size));have HC2:=hZ (qHD d y w2 g o (H.o.below HB2.o) H3.o HL.o);clear hB2 HC1 HB1
 go_wp2_with fail
 refine HC2.o.mono ?_;rintro e w3 ⟨rfl,hB3⟩;have HB3:=hZ (HB2.o.trans (hB3.mono HB2.o.size));clear hB3 HC2 HB2
 go_wp2_with fail
 go_ret;exact⟨rfl,HB3.o⟩
def qB7(w:World):Prop:=Lib.TabIs Tryd.prog w "internal/strconv.uint64pow10" .u64 Lib.pow10Tab
theorem gPow:Tryd.prog.globalNamed "internal/strconv.uint64pow10" =some 1:=by kernel_rfl
theorem qB7.below{w w':World}{B:Nat}(h:qB7 w)(hb:Below B w w')(h0:1<B):qB7 w':=by
 unfold qB7 Lib.TabIs World.var? at h ⊢;rw[gPow]at h ⊢;simp only[Option.bind_some,hb.block _ h0]at h ⊢;exact h
theorem qB7.lt{w:World}(h:qB7 w):1<w.heap.size:=by
 have hc:=Lib.TabIs.cell h gPow 0 (by decide);exact World.block_lt_of_cell? w _ hc
theorem qIw(n:Nat):Lib.itoa (n:Int)=dec n:=by
 have h:∀u:Nat,Lib.decDigits u=dec u:=by
  intro u
  induction u using Nat.strongRecOn with
  |_ u ih=>
   rw[Lib.decDigits];by_cases h:u<10
   ·rw[dif_pos h]
    unfold dec;by_cases h0:u=0
    ·subst h0;rfl
    ·rw[if_neg h0,qCx u h0,Nat.div_eq_of_lt h,Nat.mod_eq_of_lt h,qC8];rfl
   ·rw[dif_neg h,ih (u/10) (by omega)]
    unfold dec;rw[if_neg (by omega),if_neg (by omega),qCx u (by omega)];rfl
 unfold Lib.itoa;rw[if_neg (by omega),Int.toNat_natCast,h]
theorem qAM(n:Int)(w:World)(hn:qAj n=true)(hT:qB7 w):
 Calls Tryd.prog 62 #[.int .i64 n] w fun e w'=>e=.returned (.string ⟨(qAm n).toArray⟩)/\Below w.heap.size w w':=by
 have:=qAV.1 hn;refine(Tryd.strconv_Itoa n (by omega) (by omega) w hT).mono ?_;rintro e w' ⟨rfl,k,os,rfl⟩;have hd:Lib.itoa n=qAm n:=by
  unfold qAm
  conv=>lhs;rw[show n=((n.toNat:Nat):Int) by omega]
  exact qIw _
 refine⟨by rw[hd],⟨rfl,rfl,rfl,?_,fun j hj=> ?_⟩⟩
 ·show w.heap.size<=(w.heap++os).size
  rw[Array.size_append];omega
 ·show(w.heap++os)[j]? =w.heap[j]?
  rw[Array.getElem?_append_left hj]
def qAY:Bool->List Bs->Bs
 |_,[]=>[]
 |line,s::r=>(if line && (s != [59] && s != [44] && s != [58])then [32]else [])++s++qAY true r
theorem PSt.cell2{B b:Nat}{w:World}{t:Bs}{line:Bool}(h:PSt B w b t line):w.cell? ⟨b,2,none⟩=some (.bool line)/\w.frozen? ⟨b,2,none⟩=false:=by
 rcases h with ⟨_,v,hb,_⟩|⟨_,v,hb,_⟩<;>exact⟨by rw[Lib.cell_of_heap hb];rfl,Lib.frozen_of_heap hb 2⟩
theorem qCe.nth{w:World}{v:Value}{l:List Bs}(h:qCe w v l)(i:Nat)(hi:i<l.length):∃g off cap,v=.slice (some ⟨g,off,none⟩) l.length cap/\w.cell? ⟨g,off+i,none⟩=some (.string ⟨l[i].toArray⟩):=by
 obtain⟨g,off,cap,es,hv,h1,h2,h3,rfl, -,hc⟩:=TSl.at_ h i hi;exact⟨g,off,cap,hv,by simpa using hc 0 (by omega)⟩
theorem qCI(B b:Nat)(t:Bs)(line:Bool)(v:Value)(ts:List Bs)(w:World)(h:PSt B w b t line)(hv:qCe w v ts)(hlen:t.length+(qAY line ts).length<=90000000)(hn:ts.length<=1000)(hBw:B<=w.heap.size):
 Calls Tryd.prog 59 #[.pointer (some ⟨b,0,none⟩),v] w fun e w'=>e=.returned (.tuple #[])/\PSt B w' b (t++qAY line ts) (line|| !ts.isEmpty)/\PKp B w w':=by
 obtain⟨a,cap,rfl, -,-⟩:=TSl.form hv;have H:=hZ h;have HV:=hZ hv;have HLn:=hZ hlen;obtain⟨n,hnn⟩:=eX ts.length;have Hn:=hZ hnn;rw[hnn]at hn;rw[hnn];clear h hv hlen hnn
 go_enter Tryd.func59,Tryd.ntmps59
 go_wp2_with fail
 go_loopw [8] (fun iv wr=>∃(j:Nat) (t':Bs) (l':Bool),j<=n/\iv=.int .i64 j/\Hid (t++qAY line ts=t'++qAY l' (ts.drop j)/\(line|| !ts.isEmpty)=(l'|| !(ts.drop j).isEmpty))/\Hid (PSt B wr b t' l')/\Hid (PKp B w wr)) (fun iv _=>n-(intOf iv).toNat)
 case atStart=>exact⟨0,t,line,by omega,rfl,hZ ⟨rfl,rfl⟩,H,hZ (PKp.refl _ _)⟩
 case round=>
  clear H;obtain⟨j,t',l',hj,rfl,HE,HS,HK⟩:=hrel;by_cases hlt:j<n
  ·have h1:j<ts.length:=by have:=Hn.o;omega
   obtain⟨g,o1,cp,hv,y0⟩:=(HV.o.kp HK.o.2 (by decide)).nth j h1;injection hv with hv hq1 hv2;subst hv hv2;have hdr:ts.drop j=ts[j]::ts.drop (j+1):=List.drop_eq_getElem_cons h1;obtain⟨s,hs⟩:=eX (ts[j]);rw[hs]at y0 hdr;have HE2:Hid (t++qAY line ts=t'++((if l' && (s != [59] && s != [44] && s != [58])then [32]else [])++s++qAY true (ts.drop (j+1)))/\(line|| !ts.isEmpty)=true):=hZ (by
    have h9:=HE.o;rw[hdr]at h9;rw[qAY]at h9;exact⟨h9.1,by rw[h9.2];cases l'<;>rfl⟩)
   have hbd:t'.length+s.length+1<=90000001:=by
    have h8:=congrArg List.length HE2.o.1;have h9:=HLn.o;simp only[List.length_append]at h8;omega
   obtain⟨c2,f2⟩:=HS.o.cell2;have hm0:(0:Int)<=(j:Int):=by omega
   have hm1:(j:Int)<(n:Int):=by omega
   clear hs hdr hq1 h1 HE;by_cases hneed:(l' && (s != [59] && s != [44] && s != [58]))=true
   ·rw[hneed]at HE2
    simp only[Bool.and_eq_true,bne_iff_ne,ne_eq]at hneed;obtain⟨rfl,⟨n1,n2⟩,n3⟩:=hneed;have b1:(s==[59])=false:=by simpa using n1
    have b2:(s==[44])=false:=by simpa using n2
    have b3:(s==[58])=false:=by simpa using n3
    have HC:=hZ (qFB B b t' true 32 wr HS.o (by omega) (Nat.le_trans hBw HK.o.1.size));clear HS n1 n2 n3
    go_wp2_with fail
    refine HC.o.mono ?_;rintro e w5 ⟨rfl,hS5,hK5⟩;have HS5:=hZ hS5;have HK5:=hZ (HK.o.trans hK5);have HC5:=hZ (qD2 B b (t'++[32]) true s w5 hS5 (by simp;omega) (Nat.le_trans hBw HK5.o.1.size));clear hS5 hK5 HC HK c2 f2 y0 b1 b2 b3
    go_wp2_with fail
    refine HC5.o.mono ?_;rintro e w6 ⟨⟨u6,rfl⟩,hS6,hK6⟩;obtain⟨c6,f6⟩:=hS6.cell2;have hq:=hS6.line true;obtain⟨w7,hw7⟩:=eX (w6.setCell ⟨b,2,none⟩ (.bool true));rw[hw7]at hq;have HS7:=hZ hq.1;have HK7:=hZ (HK5.o.trans (hK6.trans hq.2));have HEE:Hid (t++qAY line ts=(t'++[32]++s)++qAY true (ts.drop (j+1))/\(line|| !ts.isEmpty)=(true|| !(ts.drop (j+1)).isEmpty)):=hZ ⟨by rw[HE2.o.1];simp,HE2.o.2⟩;clear hS6 hK6 hq HC5 HE2
    go_wp2_with fail
    exact⟨⟨j+1,_,_,by omega,by go_num,HEE,HS7,HK7⟩,by simp[intOf];omega⟩
   ·rw[Bool.not_eq_true]at hneed
    rw[hneed]at HE2;have HC5:=hZ (qD2 B b t' l' s wr HS.o (by omega) (Nat.le_trans hBw HK.o.1.size));cases l' with
    |false=>
     clear HS hneed
     go_wp2_with fail
     refine HC5.o.mono ?_;rintro e w6 ⟨⟨u6,rfl⟩,hS6,hK6⟩;obtain⟨c6,f6⟩:=hS6.cell2;have hq:=hS6.line true;obtain⟨w7,hw7⟩:=eX (w6.setCell ⟨b,2,none⟩ (.bool true));rw[hw7]at hq;have HS7:=hZ hq.1;have HK7:=hZ (HK.o.trans (hK6.trans hq.2));have HEE:Hid (t++qAY line ts=(t'++s)++qAY true (ts.drop (j+1))/\(line|| !ts.isEmpty)=(true|| !(ts.drop (j+1)).isEmpty)):=hZ ⟨by rw[HE2.o.1];simp,HE2.o.2⟩;clear hS6 hK6 hq HC5 HE2
     go_wp2_with fail
     exact⟨⟨j+1,_,_,by omega,by go_num,HEE,HS7,HK7⟩,by simp[intOf];omega⟩
    |true=>
     have hss:s=[59]\/s=[44]\/s=[58]:=by
      simp only[Bool.true_and,Bool.and_eq_false_iff,bne_eq_false_iff_eq]at hneed;rcases hneed with (h|h)|h
      ·exact .inl h
      ·exact .inr (.inl h)
      ·exact .inr (.inr h)
     clear HS hneed;rcases hss with rfl|rfl|rfl
     ·have b1:((⟨#[59]⟩:ByteArray)==⟨#[59]⟩)=true:=by decide
      go_wp2_with fail
      refine HC5.o.mono ?_;rintro e w6 ⟨⟨u6,rfl⟩,hS6,hK6⟩;obtain⟨c6,f6⟩:=hS6.cell2;have hq:=hS6.line true;obtain⟨w7,hw7⟩:=eX (w6.setCell ⟨b,2,none⟩ (.bool true));rw[hw7]at hq;have HS7:=hZ hq.1;have HK7:=hZ (HK.o.trans (hK6.trans hq.2));have HEE:Hid (t++qAY line ts=(t'++[59])++qAY true (ts.drop (j+1))/\(line|| !ts.isEmpty)=(true|| !(ts.drop (j+1)).isEmpty)):=hZ ⟨by rw[HE2.o.1];simp,HE2.o.2⟩;clear hS6 hK6 hq HC5 HE2
      go_wp2_with fail
      exact⟨⟨j+1,_,_,by omega,by go_num,HEE,HS7,HK7⟩,by simp[intOf];omega⟩
     ·have b1:((⟨#[44]⟩:ByteArray)==⟨#[59]⟩)=false:=by decide
      have b2:((⟨#[44]⟩:ByteArray)==⟨#[44]⟩)=true:=by decide
      go_wp2_with fail
      refine HC5.o.mono ?_;rintro e w6 ⟨⟨u6,rfl⟩,hS6,hK6⟩;obtain⟨c6,f6⟩:=hS6.cell2;have hq:=hS6.line true;obtain⟨w7,hw7⟩:=eX (w6.setCell ⟨b,2,none⟩ (.bool true));rw[hw7]at hq;have HS7:=hZ hq.1;have HK7:=hZ (HK.o.trans (hK6.trans hq.2));have HEE:Hid (t++qAY line ts=(t'++[44])++qAY true (ts.drop (j+1))/\(line|| !ts.isEmpty)=(true|| !(ts.drop (j+1)).isEmpty)):=hZ ⟨by rw[HE2.o.1];simp,HE2.o.2⟩;clear hS6 hK6 hq HC5 HE2
      go_wp2_with fail
      exact⟨⟨j+1,_,_,by omega,by go_num,HEE,HS7,HK7⟩,by simp[intOf];omega⟩
     ·have b1:((⟨#[58]⟩:ByteArray)==⟨#[59]⟩)=false:=by decide
      have b2:((⟨#[58]⟩:ByteArray)==⟨#[44]⟩)=false:=by decide
      have b3:((⟨#[58]⟩:ByteArray)==⟨#[58]⟩)=true:=by decide
      go_wp2_with fail
      refine HC5.o.mono ?_;rintro e w6 ⟨⟨u6,rfl⟩,hS6,hK6⟩;obtain⟨c6,f6⟩:=hS6.cell2;have hq:=hS6.line true;obtain⟨w7,hw7⟩:=eX (w6.setCell ⟨b,2,none⟩ (.bool true));rw[hw7]at hq;have HS7:=hZ hq.1;have HK7:=hZ (HK.o.trans (hK6.trans hq.2));have HEE:Hid (t++qAY line ts=(t'++[58])++qAY true (ts.drop (j+1))/\(line|| !ts.isEmpty)=(true|| !(ts.drop (j+1)).isEmpty)):=hZ ⟨by rw[HE2.o.1];simp,HE2.o.2⟩;clear hS6 hK6 hq HC5 HE2
      go_wp2_with fail
      exact⟨⟨j+1,_,_,by omega,by go_num,HEE,HS7,HK7⟩,by simp[intOf];omega⟩
  ·have hm1:¬(j:Int)<(n:Int):=by omega
   have hdn:ts.drop j=[]:=List.drop_of_length_le (by have:=Hn.o;omega);have HF:Hid (PSt B wr b (t++qAY line ts) (line|| !ts.isEmpty)):=hZ (by
    have h9:=HE.o;rw[hdn]at h9;rw[h9.1,h9.2];simpa[qAY]using HS.o)
   clear hdn HE HS
   go_wp2_with fail
   go_end0
   exact⟨rfl,HF.o,HK.o⟩
end Go.Proofs.YtpmnbcdjoomgcaaDoor
