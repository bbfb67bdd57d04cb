/- Walks of package ref01: Around, Pick, Short, Bound, Decimal. -/
import Derived.RangeFuncNested
import Derived.RangeFuncBound
import Derived.RangeFuncCalls
import Derived.RangeFuncLeaves
import Derived.Shelf.Abstract
import Derived.Shelf.RegionOpen
import Derived.WalkKit
import Derived.OwnWalkIn
import Derived.TacticsInMore
import Derived.LoopNIn
import Derived.LoopIn
import Derived.Below
import Derived.Lib.Hide
import Derived.Laws.OwnMore
import Derived.Laws.Rows
import Derived.Laws.CopyOwn
import Derived.Deep.Draws
import Derived.OwnWalk
import Derived.Test.YtpmnbcdjoomgcaaGreatDoorProg
import Derived.WalkSpells
import Derived.WalkLawsBesides
set_option linter.unusedVariables false
set_option linter.unusedSimpArgs false
set_option maxHeartbeats 1000000
set_option maxRecDepth 100000
namespace Go.Proofs.YtpmnbcdjoomgcaaGreatDoor

abbrev Bs:=List UInt8
def cls(c:Int):Int:=
 if c==32 then 0 else if c==9 then 0 else if c==10 then 0 else if c==95 then 3 else
 if c==58 then 4 else if c==59 then 4 else if c==44 then 4 else if c==40 then 4 else if c==41 then 4 else
 if c==123 then 4 else if c==125 then 4 else if c==61 then 4 else if c==60 then 4 else if c==62 then 4 else
 if c==43 then 4 else if c==46 then 4 else if c==35 then 5 else if c==45 then 6 else
 if 97<=c/\c<=122 then 1 else if 48<=c/\c<=57 then 2 else 7
def cl(c:UInt8):Int:=cls c.toNat
def kindsL:List Int:=[0,0,0,0,0,0,0,0,0,1,1,0,0,0,0,0,0,0,0,0,0,0,0,0,0,0,0,0,0,0,0,0,1,0,0,2,0,0,0,0,7,7,0,7,7,6,7,0,4,4,4,4,4,4,4,4,4,4,7,7,7,7,7,0,0,0,0,0,0,0,0,0,0,0,0,0,0,0,0,0,0,0,0,0,0,0,0,0,0,0,0,0,0,0,0,5,0,3,3,3,3,3,3,3,3,3,3,3,3,3,3,3,3,3,3,3,3,3,3,3,3,3,3,7,0,7,0,0]
def kd(c:UInt8):Int:=if c.toNat<128 then kindsL.getD c.toNat 0 else 0
def qI3(n:Int):Int:=if n=0 then 1 else if n=1 then 3 else if n=2 then 4 else if n=3 then 5 else if n=4 then 7 else if n=5 then 2 else if n=6 then 6 else 0
theorem qIx:∀n:Fin 256,kd (UInt8.ofNat n.1)=qI3 (cl (UInt8.ofNat n.1)):=by decide +kernel
theorem qGA(c:UInt8):kd c=qI3 (cl c):=by
 have h:=qIx ⟨c.toNat,UInt8.toNat_lt c⟩;simpa using h
theorem qGa:∀n:Fin 256,0<=cl (UInt8.ofNat n.1)/\cl (UInt8.ofNat n.1)<=7:=by decide +kernel
theorem qBI(c:UInt8):0<=cl c/\cl c<=7:=by
 have h:=qGa ⟨c.toNat,UInt8.toNat_lt c⟩;simpa using h
theorem qGG:∀n:Fin 256,(cl (UInt8.ofNat n.1)=5 ↔ n.1=35)/\(cl (UInt8.ofNat n.1)=6 ↔ n.1=45)/\(n.1=10->cl (UInt8.ofNat n.1)=0)/\(cl (UInt8.ofNat n.1)=2 ↔ (48<=n.1/\n.1<=57)):=by decide +kernel
theorem qDP(c:UInt8):(cl c=5 ↔ c.toNat=35)/\(cl c=6 ↔ c.toNat=45)/\(c.toNat=10->cl c=0)/\(cl c=2 ↔ (48<=c.toNat/\c.toNat<=57)):=by
 have h:=qGG ⟨c.toNat,UInt8.toNat_lt c⟩;simpa using h
def nc(cm:Bool)(c:UInt8):Bool:=if c.toNat=10 then false else if c.toNat=35 then true else cm
def sk:Bool->Bs->Bs
 |_,[]=>[]
 |cm,c::l=>if nc cm c=false/\cl c≠0 then c::l else sk (nc cm c) l
theorem qCc(cm:Bool)(c:UInt8)(l:Bs):sk cm (c::l)=if nc cm c=false/\cl c≠0 then c::l else sk (nc cm c) l:=rfl
theorem qDl:∀(cm:Bool) (l:Bs),sk cm l <:+l
 |_,[]=>by simp[sk]
 |cm,c::l=>by
  rw[qCc]
  split
  ·exact List.suffix_refl _
  ·exact(qDl _ l).trans (List.suffix_cons c l)
theorem qES(cm:Bool)(l:Bs):(sk cm l).length<=l.length:=(qDl cm l).length_le
theorem qDE:∀(cm:Bool) (l:Bs),sk false (sk cm l)=sk cm l
 |_,[]=>rfl
 |cm,c::l=>by
  rw[qCc]
  split
  ·rename_i h
   obtain⟨h1,h2⟩:=h;have h3:nc false c=false:=by
    unfold nc at h1 ⊢;by_cases h10:c.toNat=10
    ·simp[h10]
    ·by_cases h35:c.toNat=35
     ·simp[h35]at h1
     ·simp[h35]
   rw[qCc,if_pos ⟨h3,h2⟩]
  ·exact qDE _ l
theorem qET:∀l:Bs,sk true l=sk false (l.dropWhile (fun c=>c != 10))
 |[]=>rfl
 |c::l=>by
  by_cases h:c=10
  ·subst h;simp[sk,nc]
  ·have h10:¬c.toNat=10:=fun e=>h (by rw[<-UInt8.toNat_inj];exact e)
   have hb:(c != 10)=true:=by simpa using h
   have h1:nc true c=true:=by simp[nc,h10]
   rw[List.dropWhile_cons];simp only[hb,if_true];rw[qCc,h1,if_neg (by simp),qET l]
theorem qI7(c:UInt8)(l:Bs)(h:cl c=0):sk false (c::l)=sk false l:=by
 have h35:¬c.toNat=35:=fun e=>by have:=(qDP c).1.2 e;omega
 have h1:nc false c=false:=by simp[nc,h35]
 rw[qCc,h1,if_neg (by simp[h])]
theorem qKk(c:UInt8)(l:Bs)(h:cl c=5):sk false (c::l)=sk true l:=by
 have h35:c.toNat=35:=(qDP c).1.1 h;have h1:nc false c=true:=by simp[nc,h35]
 rw[qCc,h1,if_neg (by simp)]
theorem qKj(c:UInt8)(l:Bs)(h0:cl c≠0)(h5:cl c≠5):sk false (c::l)=c::l:=by
 have h35:¬c.toNat=35:=fun e=>h5 ((qDP c).1.2 e);have h1:nc false c=false:=by simp[nc,h35]
 rw[qCc,if_pos ⟨h1,h0⟩]
def wb(c:UInt8):Bool:=decide (1<=cl c) && decide (cl c<=3)
def db(c:UInt8):Bool:=decide (cl c=2)
def tl:Bs->Nat
 |[]=>0
 |c::l=>
  if cl c=1 then 1+(l.takeWhile wb).length
  else if cl c=2 then 1+(l.takeWhile db).length
  else if cl c=4 then 1
  else if cl c=6 then (if l.head? =some 62 then 2 else 0)
  else 0
def dg(c:UInt8):Nat:=c.toNat-48
theorem qK8(c:UInt8):dg c=c.toNat-48:=rfl
attribute [irreducible] dg
def dv:Nat->Bs->Nat
 |n,[]=>n
 |n,c::l=>dv (10*n+dg c) l
theorem qEC(n:Nat)(c:UInt8)(l:Bs):dv n (c::l)=dv (10*n+dg c) l:=by rw[dv]
theorem qIL(l:Bs)(c:UInt8):∀n:Nat,dv n (l++[c])=10*dv n l+dg c:=by
 induction l with
 |nil=>intro n;rfl
 |cons d l ih=>intro n;rw[List.cons_append,qEC,qEC];exact ih _
structure Tok where
 kind:Int
 text:Bs
 n:Int
 at_:Nat
def nx(a:Nat)(l:Bs):Except Int Tok:=
 match l with
 |[]=> .error 2
 |c::r=>
  if tl (c::r)=0 then .error 2
  else if cl c=1 then (if tl (c::r)>16 then .error 4 else .ok ⟨0,(c::r).take (tl (c::r)),0,a⟩)
  else if cl c=2 then (if dv 0 ((c::r).take (tl (c::r)))>1099511627776 then .error 4 else .ok ⟨1,(c::r).take (tl (c::r)),dv 0 ((c::r).take (tl (c::r))),a⟩)
  else .ok ⟨2,(c::r).take (tl (c::r)),0,a⟩
theorem qKh:∀l:Bs,tl l<=l.length
 |[]=>Nat.le_refl _
 |c::l=>by
  have h1:=(List.takeWhile_sublist wb (l:=l)).length_le;have h2:=(List.takeWhile_sublist db (l:=l)).length_le;have h3:l.head? =some 62->1<=l.length:=by
   intro h;cases l with
   |nil=>simp at h
   |cons d l=>simp
  rw[tl,List.length_cons];by_cases a1:cl c=1
  ·rw[if_pos a1];omega
  ·by_cases a2:cl c=2
   ·rw[if_neg a1,if_pos a2];omega
   ·by_cases a4:cl c=4
    ·rw[if_neg a1,if_neg a2,if_pos a4];omega
    ·by_cases a6:cl c=6
     ·rw[if_neg a1,if_neg a2,if_neg a4,if_pos a6]
      by_cases a7:l.head? =some 62
      ·rw[if_pos a7];have:=h3 a7;omega
      ·rw[if_neg a7];omega
     ·rw[if_neg a1,if_neg a2,if_neg a4,if_neg a6];omega
theorem qGt{a:Nat}{l:Bs}{t:Tok}(h:nx a l=.ok t):0<tl l/\t.text=l.take (tl l)/\t.at_=a:=by
 cases l with
 |nil=>simp[nx]at h
 |cons c r=>
  unfold nx at h;simp only[]at h;by_cases h0:tl (c::r)=0
  ·rw[if_pos h0]at h;cases h
  ·rw[if_neg h0]at h
   refine⟨by omega,?_⟩;by_cases h1:cl c=1
   ·rw[if_pos h1]at h
    by_cases h2:tl (c::r)>16
    ·rw[if_pos h2]at h;cases h
    ·rw[if_neg h2]at h;cases h;exact⟨rfl,rfl⟩
   ·rw[if_neg h1]at h
    by_cases h2:cl c=2
    ·rw[if_pos h2]at h
     by_cases h3:dv 0 ((c::r).take (tl (c::r)))>1099511627776
     ·rw[if_pos h3]at h;cases h
     ·rw[if_neg h3]at h;cases h;exact⟨rfl,rfl⟩
    ·rw[if_neg h2]at h;cases h;exact⟨rfl,rfl⟩
def qKu(N:Nat):Nat->Bs->Except (Nat×Int) (List Tok)
 |0,_=> .ok []
 |f+1,l=>
  match sk false l with
  |[]=> .ok []
  |c::r=>
   match nx (N-(c::r).length) (c::r)with
   |.error e=> .error (N-(c::r).length,e)
   |.ok t=>
    match qKu N f ((c::r).drop (tl (c::r)))with
    |.error x=> .error x
    |.ok ts=> .ok (t::ts)
def lx(N:Nat)(l:Bs):Except (Nat×Int) (List Tok):=qKu N (l.length+1) l
theorem qF1(N:Nat):∀(f g:Nat) (l:Bs),l.length<f->l.length<g->qKu N f l=qKu N g l
 |0,_,_,h,_=>by omega
 |_,0,_,_,h=>by omega
 |f+1,g+1,l,hf,hg=>by
  rw[qKu,qKu];cases hs:sk false l with
  |nil=>rfl
  |cons c r=>
   simp only[];cases hn:nx (N-(c::r).length) (c::r)with
   |error e=>rfl
   |ok t=>
    simp only[];have h0:=(qGt hn).1;have hlen:(c::r).length<=l.length:=by rw[<-hs];exact qES _ _
    have hd:((c::r).drop (tl (c::r))).length<l.length:=by
     rw[List.length_drop];have:0<(c::r).length:=by simp
     omega
    rw[qF1 N f g _ (by omega) (by omega)]
theorem qGw(N:Nat)(l:Bs):lx N l=match sk false l with
 |[]=> .ok []
 |c::r=>
  match nx (N-(c::r).length) (c::r)with
  |.error e=> .error (N-(c::r).length,e)
  |.ok t=>
   match lx N ((c::r).drop (tl (c::r)))with
   |.error x=> .error x
   |.ok ts=> .ok (t::ts):=by
 rw[lx,qKu];cases hs:sk false l with
 |nil=>rfl
 |cons c r=>
  simp only[];cases hn:nx (N-(c::r).length) (c::r)with
  |error e=>rfl
  |ok t=>
   simp only[];have h0:=(qGt hn).1;have hlen:(c::r).length<=l.length:=by rw[<-hs];exact qES _ _
   have hd:((c::r).drop (tl (c::r))).length<l.length:=by
    rw[List.length_drop];have:0<(c::r).length:=by simp
    omega
   rw[lx,qF1 N l.length (((c::r).drop (tl (c::r))).length+1) _ hd (by omega)]
theorem qLq(N:Nat)(cm:Bool)(l:Bs):lx N (sk cm l)=match sk cm l with
 |[]=> .ok []
 |c::r=>
  match nx (N-(c::r).length) (c::r)with
  |.error e=> .error (N-(c::r).length,e)
  |.ok t=>
   match lx N ((c::r).drop (tl (c::r)))with
   |.error x=> .error x
   |.ok ts=> .ok (t::ts):=by
 rw[qGw,qDE]
theorem qFs(N:Nat)(l:Bs):lx N (sk false l)=lx N l:=by
 rw[qLq,<-qGw]
theorem qEt(N:Nat):∀(n:Nat) (l:Bs) (ts:List Tok),l.length<=n->lx N l=.ok ts->ts.length<=l.length
 |n,l,ts,hn,h=>by
  rw[qGw]at h;cases hs:sk false l with
  |nil=>rw[hs]at h;cases h;simp
  |cons c r=>
   rw[hs]at h;simp only[]at h;cases hx:nx (N-(c::r).length) (c::r)with
   |error e=>rw[hx]at h;cases h
   |ok t=>
    rw[hx]at h;simp only[]at h;have h0:=(qGt hx).1;have hle:(c::r).length<=l.length:=by rw[<-hs];exact qES _ _
    have hd:((c::r).drop (tl (c::r))).length<l.length:=by
     rw[List.length_drop];have:0<(c::r).length:=by simp
     omega
    cases hy:lx N ((c::r).drop (tl (c::r)))with
    |error e=>rw[hy]at h;cases h
    |ok us=>
     rw[hy]at h;cases h
     match n,hn with
     |0,hn=>omega
     |m+1,hn=>
      have:=qEt N m _ us (by omega) hy;simp only[List.length_cons]at *;omega
theorem qJn{a:Nat}{l:Bs}{e:Int}(h:nx a l=.error e):e=2\/e=4:=by
 cases l with
 |nil=>simp[nx]at h;exact .inl h.symm
 |cons c r=>
  unfold nx at h;simp only[]at h;by_cases h0:tl (c::r)=0
  ·rw[if_pos h0]at h;cases h;exact .inl rfl
  ·rw[if_neg h0]at h
   by_cases h1:cl c=1
   ·rw[if_pos h1]at h
    by_cases h2:tl (c::r)>16
    ·rw[if_pos h2]at h;cases h;exact .inr rfl
    ·rw[if_neg h2]at h;cases h
   ·rw[if_neg h1]at h
    by_cases h2:cl c=2
    ·rw[if_pos h2]at h
     by_cases h3:dv 0 ((c::r).take (tl (c::r)))>1099511627776
     ·rw[if_pos h3]at h;cases h;exact .inr rfl
     ·rw[if_neg h3]at h;cases h
    ·rw[if_neg h2]at h;cases h
theorem qJ2(N:Nat):∀(n:Nat) (l:Bs) (k:Nat) (e:Int),l.length<=n->lx N l=.error (k,e)->(e=2\/e=4)/\(l.length<=N->N-l.length<=k/\k<N)
 |n,l,k,e,hn,h=>by
  rw[qGw]at h;cases hs:sk false l with
  |nil=>rw[hs]at h;cases h
  |cons c r=>
   rw[hs]at h;simp only[]at h;have hle:(c::r).length<=l.length:=by rw[<-hs];exact qES _ _
   have hpos:0<(c::r).length:=by simp
   cases hx:nx (N-(c::r).length) (c::r)with
   |error e'=>rw[hx]at h;cases h;exact⟨qJn hx,fun h=>by omega⟩
   |ok t=>
    rw[hx]at h;simp only[]at h;have h0:=(qGt hx).1;have hd:((c::r).drop (tl (c::r))).length<l.length:=by
     rw[List.length_drop];omega
    cases hy:lx N ((c::r).drop (tl (c::r)))with
    |ok us=>rw[hy]at h;cases h
    |error x=>
     rw[hy]at h;cases h
     match n,hn with
     |0,hn=>omega
     |m+1,hn=>
      have:=qJ2 N m _ k e (by omega) hy;exact⟨this.1,fun h=>by have:=this.2 (by omega);omega⟩
structure Pr where
 n:Int
 name:Bs
 at_:Int
deriving DecidableEq
structure Dc where
 kind:Int
 name:Bs
 at_:Int
 object:Bool
 mixed:Bool
 coin:Bool
 wear:Int
 bind:Int
 level:Int
 time:Int
 chance:Int
 of_:Int
 take:List Pr
 give:List Pr
 back:List Pr
 rows:List (List Pr)
 brs:List (Int×Int)
def Dc.zero(kind:Int)(name:Bs)(at_:Int):Dc:=⟨kind,name,at_,false,false,false,0,0,0,0,0,0,[],[],[],[],[]⟩
abbrev Rd(α:Type):=Except (List Tok) (α×List Tok)
def Tok.is(t:Tok)(k:Int)(s:Bs):Bool:=t.kind==k && (s.isEmpty||t.text==s)
def qAL(k:Int)(s:Bs):List Tok->Rd Tok
 |[]=> .error []
 |t::r=>if t.is k s then .ok (t,r)else .error (t::r)
def isT(k:Int)(s:Bs):List Tok->Bool
 |[]=>false
 |t::_=>t.is k s
theorem qFl(k:Int)(s:Bs)(l:List Tok):qAL k s l=if isT k s l then (match l with|t::r=> .ok (t,r)|[]=> .error [])else .error l:=by
 cases l with
 |nil=>rfl
 |cons t r=>rfl
def qAw:List Tok->Rd (List Pr)
 |[]=> .error []
 |a::l=>
  if a.is 1 []then
   match l with
   |[]=> .error []
   |b::r=>
    if b.is 0 []then
     match r with
     |[]=> .ok ([⟨a.n,b.text,b.at_⟩],[])
     |c::r'=>
      if c.is 2 [44]then
       match qAw r' with
       |.ok (x,z)=> .ok (⟨a.n,b.text,b.at_⟩::x,z)
       |.error z=> .error z
      else .ok ([⟨a.n,b.text,b.at_⟩],c::r')
    else .error (b::r)
  else .error (a::l)
def qDa:List Tok->Rd (List (Int×Int))
 |[]=> .error []
 |a::l=>
  if a.is 1 []then
   match l with
   |[]=> .error []
   |b::r=>
    if b.is 2 [58]then
     match r with
     |[]=> .error []
     |c::r'=>
      if c.is 1 []then
       match r' with
       |[]=> .ok ([(a.n,c.n)],[])
       |d::r2=>
        if d.is 2 [44]then
         match qDa r2 with
         |.ok (x,z)=> .ok ((a.n,c.n)::x,z)
         |.error z=> .error z
        else .ok ([(a.n,c.n)],d::r2)
      else .error (c::r')
    else .error (b::r)
  else .error (a::l)
def qCu(l:List Tok):Rd (List Pr):=
 match qAL 1 [] l with
 |.error z=> .error z
 |.ok (a,l1)=>
  match qAL 2 [58] l1 with
  |.error z=> .error z
  |.ok (_,l2)=>
   if isT 1 [] l2 then
    match qAw l2 with
    |.error z=> .error z
    |.ok (x,z)=> .ok (⟨a.n,[],a.at_⟩::x,z)
   else .ok ([⟨a.n,[],a.at_⟩],l2)
def qBj:Nat->List Tok->Rd (List (List Pr))
 |0,l=> .error l
 |f+1,l=>
  match qCu l with
  |.error z=> .error z
  |.ok (x,l1)=>
   if isT 2 [43] l1 then
    match qBj f (l1.drop 1)with
    |.error z=> .error z
    |.ok (y,z)=> .ok (x::y,z)
   else .ok ([x],l1)
def qAx:Bs:=[111,98,106,101,99,116]
def qAR:Bs:=[109,105,120,101,100]
def qBt:Bs:=[99,111,105,110]
def qBY:Bs:=[119,101,97,114]
def qDj:Bs:=[98,105,110,100]
def qAo:Bs:=[108,101,118,101,108]
def qBG:Bs:=[116,105,109,101]
def qAy:Bs:=[99,104,97,110,99,101]
def qBZ:Bs:=[116,97,107,101]
def qB4:Bs:=[103,105,118,101]
def qCb:Bs:=[98,97,99,107]
def qGM:Bs:=[117,115,101]
def qHP:Bs:=[103,101,116]
def wOf:Bs:=[111,102]
def qCw:Bs:=[105,116,101,109]
def qC0:Bs:=[114,117,108,101]
def qBJ:Bs:=[115,112,97,119,110]
def qDi:Bs:=[108,111,111,116]
def qHj:Bs:=[116,97,120]
inductive Fg|object|mixed|coin|wear|bind|level|time|chance|take|give|back
deriving DecidableEq
def Fg.word:Fg->Bs
 |object=>qAx|mixed=>qAR|coin=>qBt|wear=>qBY|bind=>qDj|level=>qAo
 |time=>qBG|chance=>qAy|take=>qBZ|give=>qB4|back=>qCb
def qCs:List Fg:=[.object,.mixed,.coin,.wear,.bind,.level]
def qBT:List Fg:=[.level,.time,.chance,.take,.give,.back]
def qAP(l:List Tok):Rd Int:=
 match qAL 1 [] l with
 |.error z=> .error z
 |.ok (t,r)=> .ok (t.n,r)
def pFg(x:Fg)(d:Dc)(l:List Tok):Rd Dc:=
 match x with
 |.object=> .ok ({ d with object:=true },l)
 |.mixed=> .ok ({ d with mixed:=true },l)
 |.coin=> .ok ({ d with coin:=true },l)
 |.wear=>match qAP l with|.error z=> .error z|.ok (n,r)=> .ok ({ d with wear:=n },r)
 |.level=>match qAP l with|.error z=> .error z|.ok (n,r)=> .ok ({ d with level:=n },r)
 |.time=>match qAP l with|.error z=> .error z|.ok (n,r)=> .ok ({ d with time:=n },r)
 |.bind=>if isT 0 qGM l then .ok ({ d with bind:=2 },l.drop 1)else if isT 0 qHP l then .ok ({ d with bind:=1 },l.drop 1)else .error l
 |.chance=>
  match qAP l with
  |.error z=> .error z
  |.ok (n,l1)=>
   match qAL 0 wOf l1 with
   |.error z=> .error z
   |.ok (_,l2)=>
    match qAP l2 with
    |.error z=> .error z
    |.ok (m,l3)=> .ok ({ d with chance:=n,of_:=m },l3)
 |.take=>match qAw l with|.error z=> .error z|.ok (x,r)=> .ok ({ d with take:=x },r)
 |.give=>match qAw l with|.error z=> .error z|.ok (x,r)=> .ok ({ d with give:=x },r)
 |.back=>match qAw l with|.error z=> .error z|.ok (x,r)=> .ok ({ d with back:=x },r)
def qAT(known:List Fg):Nat->List Fg->Dc->List Tok->Rd Dc
 |0,_,_,l=> .error l
 |f+1,seen,d,l=>
  match l with
  |[]=> .ok (d,[])
  |t::r=>
   if t.is 0 []then
    match known.find? (fun x=>t.text==x.word)with
    |none=> .error (t::r)
    |some x=>
     if seen.contains x then .error (t::r)
     else
      match pFg x d r with
      |.error z=> .error z
      |.ok (d',l')=>qAT known f (x::seen) d' l'
   else .ok (d,t::r)
def qAh:List Bs:=[qCw,qC0,qBJ,qDi,qHj]
def qBv(l:List Tok):Option Nat:=qAh.findIdx? (fun x=>isT 0 x l)
def qA3(k:Nat)(d:Dc)(l:List Tok):Rd Dc:=
 if k=0 then qAT qCs (l.length+1) [] d l
 else if k<=2 then qAT qBT (l.length+1) [] d l
 else if k=3 then match qBj (l.length+1) l with|.error z=> .error z|.ok (x,r)=> .ok ({ d with rows:=x },r)
 else match qDa l with|.error z=> .error z|.ok (x,r)=> .ok ({ d with brs:=x },r)
def qA6(l:List Tok):Rd Dc:=
 match qBv l with
 |none=> .error l
 |some k=>
  match qAL 0 [] (l.drop 1)with
  |.error z=> .error z
  |.ok (t,l2)=>
   match qA3 k (Dc.zero k t.text t.at_) l2 with
   |.error z=> .error z
   |.ok (d,l3)=>
    match qAL 2 [59] l3 with
    |.error z=> .error z
    |.ok (_,l4)=> .ok (d,l4)
def qEZ:Nat->List Tok->Except (List Tok) (List Dc)
 |0,l=> .error l
 |f+1,l=>
  match l with
  |[]=> .ok []
  |_::_=>
   match qA6 l with
   |.error z=> .error z
   |.ok (d,r)=>
    match qEZ f r with
    |.error z=> .error z
    |.ok ds=> .ok (d::ds)
def qKo(N:Nat):List Tok->Nat
 |[]=>N
 |t::_=>t.at_
def qC6(N:Nat)(l:List Tok):Except (Nat×Int) (List Dc):=
 match qEZ (l.length+1) l with
 |.error z=> .error (qKo N z,2)
 |.ok ds=> .ok ds
def qAE(s:Bs):Except (Nat×Int) (List Dc):=
 match (if 8192<s.length then .error (0,4)else lx s.length s)with
 |.error x=> .error x
 |.ok ts=>qC6 s.length ts
theorem qAv{k:Int}{s:Bs}{l r:List Tok}{t:Tok}(h:qAL k s l=.ok (t,r)):r.length+1=l.length:=by
 cases l with
 |nil=>cases h
 |cons a l=>
  simp only[qAL]at h
  split at h
  ·cases h;rfl
  ·cases h
theorem qDr:∀(n:Nat) (l:List Tok) {x:List Pr} {r:List Tok},l.length<=n->qAw l=.ok (x,r)->r.length<l.length
 |n,[],_,_,_,h=>by rw[qAw]at h;cases h
 |n,[a],_,_,_,h=>by
  rw[qAw]at h
  split at h<;>cases h
 |n,a::b::[],_,_,_,h=>by
  rw[qAw]at h
  split at h
  ·split at h
   ·cases h;simp
   ·cases h
  ·cases h
 |0,a::b::c::r',_,_,hn,_=>by simp at hn
 |n+1,a::b::c::r',x,r,hn,h=>by
  rw[qAw]at h
  split at h
  ·split at h
   ·split at h
    ·cases hx:qAw r' with
     |error z=>rw[hx]at h;cases h
     |ok y=>
      rw[hx]at h;cases h;have:=qDr n r' (x:=y.1) (r:=y.2) (by simp at hn;omega) hx;simp;omega
    ·cases h;simp
   ·cases h
  ·cases h
theorem qCh{l r:List Tok}{x:List Pr}(h:qCu l=.ok (x,r)):r.length<l.length:=by
 unfold qCu at h;cases h1:qAL 1 [] l with
 |error z=>rw[h1]at h;cases h
 |ok y=>
  obtain⟨a,l1⟩:=y;rw[h1]at h;have e1:=qAv h1;simp only[]at h;cases h2:qAL 2 [58] l1 with
  |error z=>rw[h2]at h;cases h
  |ok y=>
   obtain⟨b,l2⟩:=y;rw[h2]at h;have e2:=qAv h2;simp only[]at h
   split at h
   ·cases h3:qAw l2 with
    |error z=>rw[h3]at h;cases h
    |ok y=>
     rw[h3]at h;cases h;have:=qDr _ l2 (x:=y.1) (r:=y.2) (Nat.le_refl _) h3;omega
   ·cases h;omega
def val(b:Nat):List Nat->Nat
 |[]=>0
 |x::xs=>x+b*val b xs
def qF8(b:Nat):Nat->Nat->List Nat
 |0,_=>[]
 |f+1,n=>if n=0 then []else n%b::qF8 b f (n/b)
def qLe(b n:Nat):List Nat:=qF8 b n n
theorem qE6(b:Nat)(hb:2<=b):∀(f g n:Nat),n<=f->n<=g->qF8 b f n=qF8 b g n
 |0,0,_,_,_=>rfl
 |0,g+1,n,hf,_=>by
  have:n=0:=by omega
  subst this;simp[qF8]
 |f+1,0,n,_,hg=>by
  have:n=0:=by omega
  subst this;simp[qF8]
 |f+1,g+1,n,hf,hg=>by
  unfold qF8;by_cases h:n=0
  ·rw[if_pos h,if_pos h]
  ·rw[if_neg h,if_neg h]
   have h2:n/b<n:=Nat.div_lt_self (by omega) (by omega);rw[qE6 b hb f g (n/b) (by omega) (by omega)]
theorem qJJ(b n:Nat)(hb:2<=b)(hn:n≠0):qLe b n=n%b::qLe b (n/b):=by
 unfold qLe;cases n with
 |zero=>exact absurd rfl hn
 |succ m=>
  have h2:(m+1)/b<m+1:=Nat.div_lt_self (by omega) (by omega)
  conv=>lhs;unfold qF8
  rw[if_neg hn,qE6 b hb m ((m+1)/b) _ (by omega) (Nat.le_refl _)]
abbrev Tx:=List UInt8
def dch(d:Nat):UInt8:=UInt8.ofNat (48+d)
def qHd(n:Nat):Tx:=(qLe 10 n).reverse.map dch
def dec(n:Nat):Tx:=if n=0 then [48]else qHd n
def pad:Nat->Nat->Tx
 |0,_=>[]
 |k+1,n=>pad k (n/10)++[dch (n%10)]
theorem qDy:qHd 0=[]:=rfl
theorem qDz(n:Nat)(h:n≠0):qHd n=qHd (n/10)++[dch (n%10)]:=by
 unfold qHd;rw[qJJ 10 n (by omega) h,List.reverse_cons,List.map_append];rfl
theorem qFj:∀k,pad k 0=List.replicate k 48
 |0=>rfl
 |k+1=>by rw[pad,qFj k,List.replicate_succ'];rfl
theorem qFk:∀(k r:Nat),r<10^k->pad k r=List.replicate (k-(qHd r).length) 48++qHd r/\(qHd r).length<=k
 |0,r,hr=>by
  have:r=0:=by simpa using hr
  subst this;simp[pad,qDy]
 |k+1,r,hr=>by
  have h10:10^(k+1)=10*10^k:=by rw[Nat.pow_succ,Nat.mul_comm]
  by_cases h:r=0
  ·subst h
   rw[qFj];simp[qDy]
  ·have ih:=qFk k (r/10) (by omega)
   rw[qDz r h,pad,ih.1,List.length_append,List.length_singleton,List.append_assoc];refine⟨?_,by omega⟩
   congr 2
   omega
theorem qKp(k r:Nat)(hk:0<k)(hr:r<10^k):pad k r=List.replicate (k-(dec r).length) 48++dec r/\(dec r).length<=k:=by
 unfold dec;by_cases h:r=0
 ·subst h
  rw[if_pos rfl,qFj];refine⟨?_,hk⟩;obtain⟨k,rfl⟩:∃m,k=m+1:=⟨k-1,by omega⟩;rw[List.replicate_succ'];rfl
 ·rw[if_neg h];exact qFk k r hr
def dvT(n:Nat):Tx->Nat
 |[]=>n
 |c::l=>dvT (10*n+(c.toNat-48)) l
def qHN(c:UInt8):Prop:=48<=c.toNat/\c.toNat<=57
theorem qKF(d:Nat)(h:d<10):qHN (dch d)/\(dch d).toNat-48=d/\(dch d=48 ↔ d=0):=by
 have h1:(dch d).toNat=48+d:=by unfold dch;rw[UInt8.toNat_ofNat'];omega
 refine⟨⟨by omega,by omega⟩,by omega,⟨fun h=> ?_,fun h=>by subst h;rfl⟩⟩;rw[h]at h1;simp at h1;omega
theorem qHI(n:Nat)(l m:Tx):dvT n (l++m)=dvT (dvT n l) m:=by
 induction l generalizing n with
 |nil=>rfl
 |cons c l ih=>exact ih _
theorem qJL:∀n:Nat,(∀c∈qHd n,qHN c)/\dvT 0 (qHd n)=n/\(n≠0->∃c l,qHd n=c::l/\c≠48):=by
 intro n
 induction n using Nat.strongRecOn with
 |_ n ih=>
  by_cases h:n=0
  ·subst h
   exact⟨fun c hc=>(by cases hc),rfl,fun h=>absurd rfl h⟩
  ·have hlt:=Nat.div_lt_self (n:=n) (k:=10) (by omega) (by omega)
   obtain⟨i1,i2,i3⟩:=ih (n/10) hlt;have hd:=qKF (n%10) (Nat.mod_lt _ (by omega));rw[qDz n h];refine⟨fun c hc=> ?_,?_,fun _=> ?_⟩
   ·rcases List.mem_append.1 hc with h|h
    ·exact i1 c h
    ·rw[List.mem_singleton.1 h];exact hd.1
   ·rw[qHI,i2]
    show 10*(n/10)+((dch (n%10)).toNat-48)=n
    rw[hd.2.1];omega
   ·by_cases h2:n/10=0
    ·rw[h2,qDy]
     refine⟨_,_,rfl,fun hc=> ?_⟩;have:=hd.2.2.1 hc;omega
    ·obtain⟨c,l,hc,hc2⟩:=i3 h2
     rw[hc];exact⟨c,_,rfl,hc2⟩
theorem qKE(n:Nat):(∀c∈dec n,qHN c)/\dvT 0 (dec n)=n/\∃c l,dec n=c::l/\(c=48->l=[]):=by
 unfold dec;by_cases h:n=0
 ·subst h
  refine⟨fun c hc=> ?_,rfl,48,[],rfl,fun _=>rfl⟩;rw[if_pos rfl]at hc;rw[List.mem_singleton.1 hc];exact⟨by decide,by decide⟩
 ·rw[if_neg h]
  obtain⟨i1,i2,i3⟩:=qJL n;obtain⟨c,l,hc,hc2⟩:=i3 h;exact⟨i1,i2,c,l,hc,fun h=>absurd h hc2⟩
theorem qHJ(n k:Nat)(hk:0<k)(h:n<10^k):(dec n).length<=k:=(qKp k n hk h).2
def qAq(n:Int):Bs:=dec n.toNat
def prL:Bool->List Pr->Bs
 |_,[]=>[]
 |later,p::l=>(if later then ([44]:Bs)else [])++32::qAq p.n++32::p.name++prL true l
def qAO(w:Bs)(l:List Pr):Bs:=if l.isEmpty then []else 32::w++prL false l
def qAK(w:Bs)(n:Int):Bs:=if n=0 then []else 32::w++32::qAq n
def qCt(w:Bs)(b:Bool):Bs:=if b then 32::w else []
def qBB(n:Int):Bs:=if n=1 then 32::qDj++32::qHP else if n=2 then 32::qDj++32::qGM else []
def qAp(n m:Int):Bs:=if n=0/\m=0 then []else 32::qAy++32::qAq n++32::wOf++32::qAq m
def qIA:List Pr->Int
 |[]=>0
 |p::_=>p.n
def qAz:Bool->List (List Pr)->Bs
 |_,[]=>[]
 |later,r::l=>(if later then ([32,43]:Bs)else [])++(32::qAq (qIA r)++(58::prL false r.tail))++qAz true l
def qBu:Bool->List (Int×Int)->Bs
 |_,[]=>[]
 |later,b::l=>(if later then ([44]:Bs)else [])++32::qAq b.1++58::32::qAq b.2++qBu true l
def qAi(d:Dc):List Bs:=
 if d.kind=0 then [qCt qAx d.object,qCt qAR d.mixed,qCt qBt d.coin,qAK qBY d.wear,qBB d.bind,qAK qAo d.level]
 else if d.kind<=2 then [qAK qAo d.level,qAK qBG d.time,qAp d.chance d.of_,qAO qBZ d.take,qAO qB4 d.give,qAO qCb d.back]
 else [qAz false d.rows++qBu false d.brs]
def qKn(l:List Bs)(k:Nat):Bs:=(l.drop k++l.take k).flatten
def qB0(d:Dc)(k:Nat):Bs:=qAh.getD d.kind.toNat []++32::d.name++qKn (qAi d) k++[59,10]
def qCD(d:Dc):Bool:=d.object||d.mixed||d.coin||d.wear != 0||d.bind != 0
def qDv(d:Dc):Bool:=d.time != 0||d.chance != 0||d.of_ != 0|| !d.take.isEmpty|| !d.give.isEmpty|| !d.back.isEmpty
def qGn(r:List Pr):Bool:=match r with|[]=>false|p::_=>p.name.isEmpty
def qBh(d:Dc):Bool:=
 if d.kind=0 then !qDv d && d.rows.isEmpty && d.brs.isEmpty && decide (0<=d.bind) && decide (d.bind<=2)
 else if d.kind=1\/d.kind=2 then !qCD d && d.rows.isEmpty && d.brs.isEmpty
 else if d.kind=3 then !qCD d && !qDv d && d.level==0 && d.brs.isEmpty && !d.rows.isEmpty && d.rows.all qGn
 else if d.kind=4 then !qCD d && !qDv d && d.level==0 && d.rows.isEmpty && !d.brs.isEmpty
 else false
def qBV(s:Bs):Bool:=match (if 8192<s.length then .error (0,4)else lx s.length s)with
 |.ok [t]=>t.kind==0 && t.text==s
 |_=>false
def qA1(l:List Pr):Bool:=l.all (fun p=>qBV p.name)
def qFr(d:Dc):Bool:=qBV d.name && (qA1 d.take && qA1 d.give && qA1 d.back) && d.rows.all (fun r=>qA1 r.tail)
def qAm(n:Int):Bool:=decide (0<=n) && decide (n<=1099511627776)
def okL(l:List Pr):Bool:=l.all (fun p=>qAm p.n)
def qCj(d:Dc):Bool:=qAm d.wear && qAm d.level && qAm d.time && qAm d.chance && qAm d.of_ && okL d.take && okL d.give && okL d.back && d.rows.all okL && d.brs.all (fun b=>qAm b.1 && qAm b.2)
def qHH(d:Dc):Int:=if !qBh d then 1 else if !qFr d then 6 else if !qCj d then 5 else 0
def qJ5:List Dc->Int
 |[]=>0
 |d::l=>if qHH d=0 then qJ5 l else qHH d
def qBn(l:List Dc):Bs:=(l.map (fun d=>qB0 d 0)).flatten
def qDo(l:List Dc):Bs×Int:=if qJ5 l=0 then (if 8192<(qBn l).length then ([],4)else (qBn l,0))else ([],qJ5 l)
theorem qHl(l:List Dc)(d:Dc):qBn (l++[d])=qBn l++qB0 d 0:=by simp[qBn]
open Go Go.RowKit
def qEI(fn:FuncId)(tmps:Array Value)(ps:Array Tmp)(assign body:Code)(D:Nat)(st:LoopState)(pe:Option Code):Loop:=
 { state:=st,pending:=pe,fn:=fn,tmps:=tmps,params:=ps,assign:=assign,body:=body,defers:=D }
def qEg(l:Nat)(rec:LoopState->Option Code->Loop)(R:Ending->World->Prop):Exit->Act->World->Prop
 |.normal,_,W=>W.heap[l]? =some (.loop (rec .busy none))/\R (.returned (.bool true)) (W.putObj l (.loop (rec .ready none)))
 |.ret,_,W=>W.heap[l]? =some (.loop (rec .busy none))/\R (.returned (.bool false)) (W.putObj l (.loop (rec .done (some .ret))))
 |_,_,_=>False
theorem qEb{F:Fence}{m:Nat}{P:Program}{l D:Nat}{fn:FuncId}{tmps:Array Value}{ps:Array Tmp}{assign body:Code}{args:Array Value}{W:World}{R:Ending->World->Prop}(hfn:F.fn fn)
 (hl:W.heap[l]? =some (.loop (qEI fn tmps ps assign body D .ready none)))(hps:args.size=ps.size)
 (h:assign.wpIn (F.inRound l) m P (Exit.then (fun a₁ W₁=>W₁.heap[l]? =some (.loop (qEI fn tmps ps assign body D .ready none))/\
  body.wpIn (F.inRound l) m P (qEg l (qEI fn tmps ps assign body D) R) a₁ (W₁.putObj l (.loop (qEI fn tmps ps assign body D .busy none)))) (fun _ _ _=>False))
  { tmps:=(ps.zip args).foldl (fun t (p,v)=>t.setIfInBounds p v) tmps,defers:=[] } W):
 YieldAt F m P l args W R:=by
 have hy:=run_yield (P:=P) (args:=args) hl hps;refine⟨fn,_,assign,body,hy,roundIn_of_wpIn hfn (wpIn_mono h ?_)⟩;rintro e a₁ W₁ hq;cases e with
 |normal=>
  obtain⟨hl1,hb⟩:=hq;refine⟨_,run_beginRound hl1 rfl,wpIn_mono hb ?_⟩;rintro e a₂ W₂ hp;cases e with
  |normal=>
   obtain⟨hl2,hr⟩:=hp;exact⟨_,_,run_endRound none hl2,hr⟩
  |ret=>
   obtain⟨hl2,hr⟩:=hp;exact⟨_,_,run_endRound (some .ret) hl2,hr⟩
  |exit id=>exact hp.elim
  |goto t=>exact hp.elim
  |panic c=>exact hp.elim
  |outgrown=>exact hp.elim
 |exit id=>exact hq.elim
 |goto t=>exact hq.elim
 |ret=>exact hq.elim
 |panic c=>exact hq.elim
 |outgrown=>exact hq.elim
def qH5(_F:Fence)(_n:Nat)(_P:Program)(l:Nat)(rec:LoopState->Option Code->Loop)(Q:Exit->Act->World->Prop)(a:Act)(W:World):Prop:=
 (W.heap[l]? =some (.loop (rec .ready none))/\Q .normal a (W.putObj l (.loop (rec .exhausted none))))\/
 (W.heap[l]? =some (.loop (rec .done (some .ret)))/\Q .ret a (W.putObj l (.loop (rec .exhausted (some .ret)))))
theorem qHr{F:Fence}{n:Nat}{P:Program}{g:Operand}{ps:Array Tmp}{assign body:Code}{Q:Exit->Act->World->Prop}{a:Act}{w:World}
 (hro:F.round=none)(h1:1<=n){gf:Nat}{lb:Array Value}(hg:a.eval g=.func (.func gf) #[] lb)(hFg:F.fn gf)(eg:∀args w,(callFunc gf args).run P w=.ok (.enter gf args) w)
 (h:∀fn,F.fn fn->CallsIn F (n-1) P gf (#[.func (.yield (w.heap.size+1)) #[] #[]]++lb)
  ((w.alloc (.deferred (some []))).alloc (.loop (qEI fn a.tmps ps assign body w.heap.size .ready none)))
  fun e W'=>(∃v,e=.returned v)/\qH5 F n P (w.heap.size+1) (qEI fn a.tmps ps assign body w.heap.size) Q { a with defers:={ target:=.collected w.heap.size,args:=#[] }::a.defers } W'):
 (Code.rangeFunc g ps assign body).wpIn F n P Q a w:=by
 refine wpIn_rangeFunc ?_;intro fn hfn;rw[hro];obtain⟨W1,hW1⟩:∃W1,(w.alloc (.deferred (some []))).alloc (.loop (qEI fn a.tmps ps assign body w.heap.size .ready none))=W1:=⟨_,rfl⟩;have hc:=h fn hfn;rw[hW1]at hc;refine⟨w.heap.size+1,[{ target:=.collected w.heap.size,args:=#[] }],W1,{ target:=.fn (.func gf) lb,args:=#[.func (.yield (w.heap.size+1)) #[] #[]] },W1,gf,
  #[.func (.yield (w.heap.size+1)) #[] #[]]++lb,W1,?_,?_,?_,?_,fun _=>h1,?_⟩
 ·rw[<-hW1];exact run_enterLoop_outer _ _ _ _ _
 ·simp only[resolve,hg]
  simp[go_sem]
 ·intro f' hf';simp[Target.leads]at hf';subst hf';exact hFg
 ·simp[invoke,go_sem,eg]
 ·refine hc.mono ?_
  clear hc h hW1;rintro e W ⟨⟨v,rfl⟩,⟨hl,hq⟩|⟨hl,hq⟩⟩
  ·have hr:=run_endLoop (P:=P) hl (by simp[qEI])
   exact⟨none,_,hr,hq⟩
  ·have hr:=run_endLoop (P:=P) hl (by simp[qEI])
   refine⟨some .ret,_,hr,?_⟩;exact wpIn_ret hq
open Go.RowKit
def iv(k:IntKind)(x:Nat):Value:=.int k (x:Int)
def qDA(k:IntKind)(w:World)(v:Value)(L:List Nat):Prop:=
 ∃a cap,v=.slice a L.length cap/\L.length<=cap/\cap<=9223372036854775807/\(0<L.length->∃b off,a=some ⟨b,off,none⟩/\b<w.heap.size/\∀j (h:j<L.length),w.cell? ⟨b,off+j,none⟩=some (.int k (L[j]:Int)))
section
variable {k:IntKind}{w w':World}{v:Value}{L:List Nat}
theorem qDA.below{B:Nat}(h:qDA k w v L)(hB:w.heap.size<=B)(hb:Below B w w'):qDA k w' v L:=by
 obtain⟨a,cap,hv,h1,h2,hc⟩:=h;refine⟨a,cap,hv,h1,h2,fun h0=> ?_⟩;obtain⟨b,off,ha,hlt,hcc⟩:=hc h0;exact⟨b,off,ha,Nat.lt_of_lt_of_le hlt hb.size,fun j hj=>(hb.cell (p:=⟨b,off+j,none⟩) (Nat.lt_of_lt_of_le hlt hB)).trans (hcc j hj)⟩
theorem qDA.nil(a:Option Addr)(cap:Nat)(hc:cap<=9223372036854775807):qDA k w (.slice a 0 cap) []:=⟨a,cap,rfl,by simp,hc,fun h=>by simp at h⟩
theorem qDA.take(h:qDA k w v L)(n:Nat)(hn:n<=L.length):∃a cap,v=.slice a L.length cap/\L.length<=cap/\cap<=9223372036854775807/\qDA k w (.slice a n cap) (L.take n):=by
 obtain⟨a,cap,hv,h1,h2,hc⟩:=h;have hl:(L.take n).length=n:=by rw[List.length_take];omega
 refine⟨a,cap,hv,h1,h2,a,cap,by rw[hl],by omega,h2,fun h0=> ?_⟩;obtain⟨b,off,ha,hlt,hcc⟩:=hc (by omega);exact⟨b,off,ha,hlt,fun j hj=>by rw[List.getElem_take];exact hcc j (by omega)⟩
theorem qDA.at_(h:qDA k w v L){j:Nat}(hj:j<L.length):∃b off cap,v=.slice (some ⟨b,off,none⟩) L.length cap/\b<w.heap.size/\w.cell? ⟨b,off+j,none⟩=some (.int k (L[j]:Int)):=by
 obtain⟨a,cap,rfl,h1,h2,hc⟩:=h;obtain⟨b,off,rfl,hlt,hcc⟩:=hc (by omega);exact⟨b,off,cap,rfl,hlt,hcc j hj⟩
end
theorem qDA.cells{k:IntKind}{w:World}{a:Option Addr}{n cap:Nat}{L:List Nat}(h:qDA k w (.slice a n cap) L)(h0:0<L.length):∃ad,a=some ad/\∀j u,(L.map (iv k))[j]? =some u->w.cell? (ad.add j)=some u:=by
 obtain⟨a',cap',hv,_,_,hc⟩:=h;injection hv with e1 e2 e3;subst e1;obtain⟨b,off,rfl,hb,hcc⟩:=hc h0;refine⟨_,rfl,fun j u hu=> ?_⟩;have hj:j<L.length:=by
  rcases Nat.lt_or_ge j L.length with h|h
  ·exact h
  ·rw[List.getElem?_eq_none (by rw[List.length_map];exact h)]at hu;cases hu
 have hadd:(⟨b,off,none⟩:Addr).add j=⟨b,off+j,none⟩:=by unfold Addr.add;split<;>simp_all
 rw[List.getElem?_map,List.getElem?_eq_getElem hj]at hu;rw[hadd,hcc j hj];exact hu
def One(w:World)(b:Nat)(t:TypeId)(v:Value):Prop:=w.heap[b]? =some (.cells #[v] t (0,0))
section
variable {w w':World}{b:Nat}{t:TypeId}{v:Value}
theorem One.lt(h:One w b t v):b<w.heap.size:=by
 rcases Nat.lt_or_ge b w.heap.size with hlt|hge
 ·exact hlt
 ·unfold One at h;rw[Array.getElem?_eq_none hge]at h;cases h
theorem One.cell(h:One w b t v):w.cell? ⟨b,0,none⟩=some v:=by
 rw[cell_of_row w b 0 _ t (0,0) h];rfl
theorem One.frozen(h:One w b t v):w.frozen? ⟨b,0,none⟩=false:=by
 unfold One at h;simp[World.frozen?,h]
theorem One.below{B:Nat}(h:One w b t v)(hb:Below B w w')(hg:b<B):One w' b t v:=(hb.block b hg).trans h
theorem One.set(h:One w b t v)(u:Value):One (w.setCell ⟨b,0,none⟩ u) b t u:=by
 unfold One at h ⊢;simp[World.setCell,Array.getElem?_modify,h]
theorem One.far(h:One w b t v){p:Addr}(hp:b≠p.block)(u:Value):One (w.setCell p u) b t v:=(Below.heap_setCell w p u b hp).trans h
theorem One.drewN(h:One w b t v)(n:Nat):One (w.drewN n) b t v:=h
theorem One.drew(h:One w b t v):One w.drew b t v:=h
theorem One.new(w:World)(t:TypeId)(v:Value):One (w.alloc (.cells #[v] t)) w.heap.size t v:=heap_alloc_new w _
theorem One.alloc(h:One w b t v)(o:Obj):One (w.alloc o) b t v:=(Below.heap_alloc w o b h.lt).trans h
end
structure qAf(S:Nat->Prop)(w w':World):Prop where
 os:w'.os=w.os
 tape:w'.tape=w.tape
 output:w'.output=w.output
 size:w.heap.size<=w'.heap.size
 block:∀k,k<w.heap.size->¬S k->w'.heap[k]? =w.heap[k]?
section
variable {S S':Nat->Prop}{w w' w'':World}
theorem qAf.refl(S:Nat->Prop)(w:World):qAf S w w:=⟨rfl,rfl,rfl,Nat.le_refl _,fun _ _ _=>rfl⟩
theorem qAf.trans(h:qAf S w w')(h':qAf S w' w''):qAf S w w'':=
 ⟨h'.os.trans h.os,h'.tape.trans h.tape,h'.output.trans h.output,Nat.le_trans h.size h'.size,fun k hk hS=>(h'.block k (Nat.lt_of_lt_of_le hk h.size) hS).trans (h.block k hk hS)⟩
theorem qAf.mono(h:qAf S w w')(hS:∀k,S k->S' k):qAf S' w w':=⟨h.os,h.tape,h.output,h.size,fun k hk hn=>h.block k hk (fun hs=>hn (hS k hs))⟩
theorem qAf.set(h:qAf S w w'){p:Addr}(hp:S p.block)(u:Value):qAf S w (w'.setCell p u):=
 ⟨h.os,h.tape,h.output,by rw[show(w'.setCell p u).heap.size=w'.heap.size by simp[World.setCell]];exact h.size,fun k hk hn=>(Below.heap_setCell w' p u k (fun e=>hn (e▸hp))).trans (h.block k hk hn)⟩
theorem qAf.drew(h:qAf S w w'):qAf S w w'.drew:=⟨h.os,h.tape,h.output,h.size,h.block⟩
theorem qAf.drewN(h:qAf S w w')(n:Nat):qAf S w (w'.drewN n):=⟨h.os,h.tape,h.output,h.size,h.block⟩
theorem qAf.of_below(h:Below w.heap.size w w'):qAf S w w':=⟨h.os,h.tape,h.output,h.size,fun k hk _=>h.block k hk⟩
theorem qAf.below{B:Nat}{w0:World}(h:qAf S w w')(hb:Below B w0 w)(hB:B<=w.heap.size)(hS:∀k,S k->B<=k):Below B w0 w':=
 ⟨h.os.trans hb.os,h.tape.trans hb.tape,h.output.trans hb.output,Nat.le_trans hb.size h.size,fun k hk=>(h.block k (by omega) (fun hs=>by have:=hS k hs;omega)).trans (hb.block k hk)⟩
theorem qAf.cell(h:qAf S w w'){p:Addr}(hp:¬S p.block)(hl:p.block<w.heap.size):w'.cell? p=w.cell? p:=World.cell?_of_block (w:=w) (h.block _ hl hp)
theorem qAf.row(h:qAf S w w'){k:IntKind}{v:Value}{L:List Nat}(hr:qDA k w v L)(hS:∀b off cap,v=.slice (some ⟨b,off,none⟩) L.length cap->¬S b):qDA k w' v L:=by
 obtain⟨a,cap,hv,h1,h2,hc⟩:=hr;refine⟨a,cap,hv,h1,h2,fun h0=> ?_⟩;obtain⟨b,off,ha,hlt,hcc⟩:=hc h0;exact⟨b,off,ha,Nat.lt_of_lt_of_le hlt h.size,fun j hj=>(h.cell (p:=⟨b,off+j,none⟩) (hS b off cap (by rw[hv,ha])) hlt).trans (hcc j hj)⟩
theorem qAf.one(h:qAf S w w'){g:Nat}{t:TypeId}{v:Value}(hb:One w g t v)(hS:¬S g):One w' g t v:=(h.block g hb.lt hS).trans hb
end
theorem aR{w:World}{o:Obj}:Below w.heap.size w (w.alloc o):=(Below.refl _ _).alloc (Nat.le_refl _) _
theorem hZ{p:Prop}(h:p):Go.RowKit.Hid p:=Go.Lib.hid h
theorem _root_.Go.RowKit.Hid.o{p:Prop}(h:Go.RowKit.Hid p):p:=h
theorem aB{w w':World}{o:Obj}(h:w.alloc o=w'):Below w.heap.size w w':=by subst h;exact(Below.refl _ _).alloc (Nat.le_refl _) _
theorem dB{w w':World}(h:w.drew=w'):Below w.heap.size w w':=by subst h;exact(Below.refl _ _).drew
theorem bT{w0 w w':World}(h:Hid (Below w0.heap.size w0 w))(hB:Below w.heap.size w w'):Hid (Below w0.heap.size w0 w'):=hZ (h.out.trans (hB.mono h.out.size))
theorem oT{S:Nat->Prop}{w0 w w':World}(h:Hid (qAf S w0 w))(hB:Below w.heap.size w w'):Hid (qAf S w0 w'):=hZ (h.out.trans (qAf.of_below hB))
class Mv(w w':World)(p:Prop)(q:outParam Prop):Prop where
  mv:Below w.heap.size w w'->p->q
theorem _root_.Go.RowKit.Hid.b{w w':World}{p q:Prop}[i:Mv w w' p q](h:Go.RowKit.Hid p)(hB:Below w.heap.size w w'):Go.RowKit.Hid q:=hZ (i.mv hB h.out)
theorem eX{α:Sort _}(a:α):∃x,a=x:=⟨_,rfl⟩
theorem eY{α:Sort _}(a:α):∃x,x=a:=⟨_,rfl⟩
theorem cF{w:World}{b o:Nat}{v:Value}(e:w.cell? ⟨b,o,none⟩=some v)(l:b<w.heap.size):∀w',qAf (fun _=>False) w w'->w'.cell? ⟨b,o,none⟩=some v:=fun _ h=>(h.cell (p:=⟨b,o,none⟩) (fun h=>h) l).trans e
theorem cT{S:Nat->Prop}{w:World}{b o:Nat}{v:Value}(n:¬S b)(e:w.cell? ⟨b,o,none⟩=some v)(l:b<w.heap.size):∀w',qAf S w w'->w'.cell? ⟨b,o,none⟩=some v:=fun _ h=>(h.cell (p:=⟨b,o,none⟩) n l).trans e
def sv(t:Tx):Value:=.string ⟨t.toArray⟩
theorem qKa(a b:Tx):(⟨a.toArray⟩:ByteArray)++⟨b.toArray⟩=⟨(a++b).toArray⟩:=by
 apply ByteArray.ext;rw[ByteArray.data_append];simp
def qAu(n m:Int):Int:=if n<0 then (-(n+1))%m else n%m
theorem qAW(n m:Int)(hm:1<=m):0<=qAu n m/\qAu n m<m:=by
 unfold qAu
 split
 ·exact⟨Int.emod_nonneg _ (by omega),Int.emod_lt_of_pos _ (by omega)⟩
 ·exact⟨Int.emod_nonneg _ (by omega),Int.emod_lt_of_pos _ (by omega)⟩
theorem qIX(n m:Int)(hn:n<0)(_hm:1<=m):(-(n+1)).tmod m=qAu n m:=by
 unfold qAu;rw[if_pos hn,Int.tmod_eq_emod_of_nonneg (by omega)]
theorem qAJ{k:IntKind}{a b:Int}(h:a=b):Ending.returned (.int k a)=.returned (.int k b):=by rw[h]
theorem qBx(n m:Int)(w:World)(hn: -9223372036854775808<=n)(hn':n<=9223372036854775807)(hm:1<=m)(hm':m<=9223372036854775807):
 Calls Tryz.prog 12 #[.int .i64 n,.int .i64 m] w fun e w'=>e=.returned (.int .i64 (qAu n m))/\w=w':=by
 by_cases h:n<0
 ·have h2:=hZ (qIX n m h hm)
  go_enter Tryz.func12,Tryz.ntmps12
  go_wp2
  go_ret;exact⟨qAJ (by rw[<-h2.o,Int.neg_tmod]),rfl⟩
 ·go_enter Tryz.func12,Tryz.ntmps12
  go_wp2
  go_ret;exact⟨qAJ (by rw[qAu,if_neg (by omega)]),rfl⟩
def qBr(w:World)(v:Value)(zs:List Int)(len:Nat):Prop:=
 (∃a cap,v=.slice a 0 cap/\len=0/\cap<=9223372036854775807)\/ ∃b off cap,v=.slice (some ⟨b,off,none⟩) len cap/\b<w.heap.size/\len<=cap/\cap<=9223372036854775807/\(∀j,j<len->w.cell? ⟨b,off+j,none⟩=some (.int .i64 (zs[j]?.getD 0)))/\(∀j,j<len-> -9223372036854775808<=zs[j]?.getD 0/\zs[j]?.getD 0<=9223372036854775807)
theorem qBr.below{w w':World}{v:Value}{zs:List Int}{len:Nat}(h:qBr w v zs len){B:Nat}(hB:w.heap.size<=B)(hb:Below B w w'):qBr w' v zs len:=by
 rcases h with h|⟨b,off,cap,hv,hlt,h1,h2,hc,hr⟩
 ·exact .inl h
 ·exact .inr ⟨b,off,cap,hv,Nat.lt_of_lt_of_le hlt hb.size,h1,h2,fun j hj=>(hb.cell (p:=⟨b,off+j,none⟩) (Nat.lt_of_lt_of_le hlt hB)).trans (hc j hj),hr⟩
def qC2(zs:List Int)(len i:Nat)(m:Int):Int:=if i<len then qAu (zs[i]?.getD 0) m else 0
theorem qEl(zs:List Int)(len i:Nat)(m:Int)(hm:0<m):0<=qC2 zs len i m/\qC2 zs len i m<m:=by
 unfold qC2;by_cases h:i<len
 ·rw[if_pos h];exact qAW _ _ hm
 ·rw[if_neg h];omega
theorem qGV(v:Value)(zs:List Int)(len i:Nat)(m:Int)(w:World)(h:qBr w v zs len)(hi:i<=4611686018427387904)(hm0:0<m)(hm1:m<=4611686018427387904):
 Calls Tryz.prog 11 #[v,.int .i64 i,.int .i64 m] w fun e w'=>e=.returned (.int .i64 (qC2 zs len i m))/\w'=w:=by
 rcases h with ⟨a,cap,rfl,rfl,hcap⟩|⟨b,off,cap,rfl,hlt,h1,h2,hc,hr⟩
 ·have hp:Hid (qC2 zs 0 i m=0):=hZ (by unfold qC2;rw[if_neg (by omega)])
  go_enter Tryz.func11,Tryz.ntmps11
  go_wp2
  go_ret;exact⟨by rw[hp.o];rfl,rfl⟩
 ·by_cases hil:i<len
  ·have hp:Hid (qC2 zs len i m=qAu (zs[i]?.getD 0) m):=hZ (by unfold qC2;rw[if_pos hil])
   have hcell:=hc i hil;have hri:=hr i hil;clear hc hr;generalize zs[i]?.getD 0=z at *
   go_enter Tryz.func11,Tryz.ntmps11
   go_wp2_with (go_at_call 12;refine(qBx z m w hri.1 hri.2 (by omega) (by omega)).mono ?_;rintro e w' ⟨rfl,rfl⟩)
   go_ret;exact⟨by rw[hp.o];rfl,rfl⟩
  ·have hp:Hid (qC2 zs len i m=0):=hZ (by unfold qC2;rw[if_neg hil])
   clear hc hr
   go_enter Tryz.func11,Tryz.ntmps11
   go_wp2
   go_ret;exact⟨by rw[hp.o];rfl,rfl⟩
theorem qKD(d:Nat)(h:d<10):(⟨#[48,49,50,51,52,53,54,55,56,57]⟩:ByteArray).extract d (d+1)=⟨[dch d].toArray⟩:=by
 match d,h with
 |0,_=>rfl
 |1,_=>rfl
 |2,_=>rfl
 |3,_=>rfl
 |4,_=>rfl
 |5,_=>rfl
 |6,_=>rfl
 |7,_=>rfl
 |8,_=>rfl
 |9,_=>rfl
 |d+10,h=>omega
def ldV:Value->Nat
 |.int _ i=>i.natAbs
 |_=>0
theorem qLb:(⟨#[45]⟩:ByteArray)=⟨([45]:Tx).toArray⟩:=rfl
theorem qGE(n:Nat)(w:World)(h0:0<n)(h:n<=9223372036854775807):
 Calls Tryz.prog 48 #[.int .i64 (n:Int)] w fun e w'=>e=.returned (sv (dec n))/\w'=w:=by
 have hne:((n:Int)==0)=false:=by simp;omega
 have hnn:¬((n:Int)<0):=by omega
 have Hdec:Hid (dec n=qHd n):=hZ (by unfold dec;rw[if_neg (by omega)]);have Hlen:=hZ (qFk 19 n (by omega)).2
 go_enter Tryz.func48,Tryz.ntmps48
 go_wp2_with fail
 go_loop [4,5] (fun sv5 kv=>∃(t:Tx) (r:Nat),r<=n/\kv=.int .i64 ((r:Int))/\sv5=.string ⟨t.toArray⟩/\Hid (qHd r++t=qHd n)) (fun _ kv=>ldV kv)
 case atStart=>exact⟨[],n,Nat.le_refl _,rfl,rfl,hZ (by simp)⟩
 case round=>
  obtain⟨t,r,hr,rfl,rfl,ht⟩:=hrel;have htl:t.length<=19:=by
   have h5:=congrArg List.length ht.o;rw[List.length_append]at h5;have:=Hlen.o;omega
  by_cases h1:r=0
  ·subst h1
   go_wp2
   go_ret;refine⟨?_,rfl⟩;rw[Hdec.o,<-ht.o]
   first|rfl|(rw[qLb,qKa];rfl)
  ·have Hst:=hZ (qDz r h1)
   obtain⟨k,hk⟩:=eX (r%10);obtain⟨q,hq⟩:=eX (r/10);have hk10:k<10:=by omega
   have hqr:q<r:=by omega
   have hrn:(((r:Int))==0)=false:=by simp;omega
   have hkI:(r:Int)%10=(k:Int):=by omega
   have hqI:(r:Int)/10=(q:Int):=by omega
   rw[hk,hq]at Hst;have Hsub:=hZ (qKD k hk10);have hk11:¬((k:Int)<0):=by omega
   clear hk hq h1
   go_wp2_with fail
   go_round
   case rel=>
    refine⟨[dch k]++t,q,by omega,rfl,?_,hZ (by rw[<-ht.o,Hst.o,List.append_assoc])⟩;rw[Hsub.o,qKa]
   case measure=>simp[ldV];omega
theorem qF9(w:World):Calls Tryz.prog 48 #[.int .i64 0] w fun e w'=>e=.returned (sv (dec 0))/\w'=w:=by
 go_enter Tryz.func48,Tryz.ntmps48
 go_wp2
 go_ret;exact⟨rfl,rfl⟩
theorem qGF(n:Nat)(w:World)(h:n<=9223372036854775807):
 Calls Tryz.prog 48 #[.int .i64 (n:Int)] w fun e w'=>e=.returned (sv (dec n))/\w'=w:=by
 rcases Nat.eq_zero_or_pos n with h0|h0
 ·subst h0;exact qF9 w
 ·exact qGE n w h0 h
end Go.Proofs.YtpmnbcdjoomgcaaGreatDoor
