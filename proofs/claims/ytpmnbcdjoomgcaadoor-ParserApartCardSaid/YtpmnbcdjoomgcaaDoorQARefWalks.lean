/- Walks of the reference's small functions: class, skip, end, value, Around. -/
import Derived.RangeFuncNested
import Derived.RangeFuncBound
import Derived.RangeFuncCalls
import Derived.RangeFuncLeaves
import Derived.Shelf.Abstract
import Derived.Shelf.RegionOpen
import Derived.WalkKit
import Derived.OwnWalkIn
import Derived.TacticsInMore
import Derived.LoopNIn
import Derived.LoopIn
import Derived.Below
import Derived.Lib.Hide
import Derived.Laws.OwnMore
import Derived.Laws.Rows
import Derived.Laws.CopyOwn
import Derived.Deep.Draws
import Derived.OwnWalk
import Derived.Test.YtpmnbcdjoomgcaaDoorProg
import Derived.WalkSpells
import Derived.WalkLawsBesides
set_option linter.unusedVariables false
set_option linter.unusedSimpArgs false
set_option maxHeartbeats 1000000
set_option maxRecDepth 100000
namespace Go.Proofs.YtpmnbcdjoomgcaaDoor

abbrev Bs:=List UInt8
def cls(c:Int):Int:=
 if c==32 then 0 else if c==9 then 0 else if c==10 then 0 else if c==95 then 3 else
 if c==58 then 4 else if c==59 then 4 else if c==44 then 4 else if c==40 then 4 else if c==41 then 4 else
 if c==123 then 4 else if c==125 then 4 else if c==61 then 4 else if c==60 then 4 else if c==62 then 4 else
 if c==43 then 4 else if c==46 then 4 else if c==35 then 5 else if c==45 then 6 else
 if 97<=c/\c<=122 then 1 else if 48<=c/\c<=57 then 2 else 7
def cl(c:UInt8):Int:=cls c.toNat
def kindsL:List Int:=[0,0,0,0,0,0,0,0,0,1,1,0,0,0,0,0,0,0,0,0,0,0,0,0,0,0,0,0,0,0,0,0,1,0,0,2,0,0,0,0,7,7,0,7,7,6,7,0,4,4,4,4,4,4,4,4,4,4,7,7,7,7,7,0,0,0,0,0,0,0,0,0,0,0,0,0,0,0,0,0,0,0,0,0,0,0,0,0,0,0,0,0,0,0,0,5,0,3,3,3,3,3,3,3,3,3,3,3,3,3,3,3,3,3,3,3,3,3,3,3,3,3,3,7,0,7,0,0]
def kd(c:UInt8):Int:=if c.toNat<128 then kindsL.getD c.toNat 0 else 0
def qI2(n:Int):Int:=if n=0 then 1 else if n=1 then 3 else if n=2 then 4 else if n=3 then 5 else if n=4 then 7 else if n=5 then 2 else if n=6 then 6 else 0
theorem qIv:∀n:Fin 256,kd (UInt8.ofNat n.1)=qI2 (cl (UInt8.ofNat n.1)):=by decide +kernel
theorem qGr(c:UInt8):kd c=qI2 (cl c):=by
 have h:=qIv ⟨c.toNat,UInt8.toNat_lt c⟩;simpa using h
theorem qFZ:∀n:Fin 256,0<=cl (UInt8.ofNat n.1)/\cl (UInt8.ofNat n.1)<=7:=by decide +kernel
theorem qBN(c:UInt8):0<=cl c/\cl c<=7:=by
 have h:=qFZ ⟨c.toNat,UInt8.toNat_lt c⟩;simpa using h
theorem qGC:∀n:Fin 256,(cl (UInt8.ofNat n.1)=5 ↔ n.1=35)/\(cl (UInt8.ofNat n.1)=6 ↔ n.1=45)/\(n.1=10->cl (UInt8.ofNat n.1)=0)/\(cl (UInt8.ofNat n.1)=2 ↔ (48<=n.1/\n.1<=57)):=by decide +kernel
theorem qCO(c:UInt8):(cl c=5 ↔ c.toNat=35)/\(cl c=6 ↔ c.toNat=45)/\(c.toNat=10->cl c=0)/\(cl c=2 ↔ (48<=c.toNat/\c.toNat<=57)):=by
 have h:=qGC ⟨c.toNat,UInt8.toNat_lt c⟩;simpa using h
def nc(cm:Bool)(c:UInt8):Bool:=if c.toNat=10 then false else if c.toNat=35 then true else cm
def sk:Bool->Bs->Bs
 |_,[]=>[]
 |cm,c::l=>if nc cm c=false/\cl c≠0 then c::l else sk (nc cm c) l
theorem qCH(cm:Bool)(c:UInt8)(l:Bs):sk cm (c::l)=if nc cm c=false/\cl c≠0 then c::l else sk (nc cm c) l:=rfl
theorem qCh:∀(cm:Bool) (l:Bs),sk cm l <:+l
 |_,[]=>by simp[sk]
 |cm,c::l=>by
  rw[qCH]
  split
  ·exact List.suffix_refl _
  ·exact(qCh _ l).trans (List.suffix_cons c l)
theorem qHS(cm:Bool)(l:Bs):l.drop (l.length-(sk cm l).length)=sk cm l:=by
 obtain⟨p,hp⟩:=qCh cm l;have h1:l.length-(sk cm l).length=p.length:=by
  have:=congrArg List.length hp;simp at this;omega
 rw[h1]
 conv=>lhs;arg 2;rw[<-hp]
 simp
theorem qDW(cm:Bool)(l:Bs):(sk cm l).length<=l.length:=(qCh cm l).length_le
theorem qEX:∀(cm:Bool) (l:Bs),sk false (sk cm l)=sk cm l
 |_,[]=>rfl
 |cm,c::l=>by
  rw[qCH]
  split
  ·rename_i h
   obtain⟨h1,h2⟩:=h;have h3:nc false c=false:=by
    unfold nc at h1 ⊢;by_cases h10:c.toNat=10
    ·simp[h10]
    ·by_cases h35:c.toNat=35
     ·simp[h35]at h1
     ·simp[h35]
   rw[qCH,if_pos ⟨h3,h2⟩]
  ·exact qEX _ l
theorem qEB:∀l:Bs,sk true l=sk false (l.dropWhile (fun c=>c != 10))
 |[]=>rfl
 |c::l=>by
  by_cases h:c=10
  ·subst h;simp[sk,nc]
  ·have h10:¬c.toNat=10:=fun e=>h (by rw[<-UInt8.toNat_inj];exact e)
   have hb:(c != 10)=true:=by simpa using h
   have h1:nc true c=true:=by simp[nc,h10]
   rw[List.dropWhile_cons];simp only[hb,if_true];rw[qCH,h1,if_neg (by simp),qEB l]
theorem qEY(c:UInt8)(l:Bs)(h:cl c=0):sk false (c::l)=sk false l:=by
 have h35:¬c.toNat=35:=fun e=>by have:=(qCO c).1.2 e;omega
 have h1:nc false c=false:=by simp[nc,h35]
 rw[qCH,h1,if_neg (by simp[h])]
theorem qJ9(c:UInt8)(l:Bs)(h:cl c=5):sk false (c::l)=sk true l:=by
 have h35:c.toNat=35:=(qCO c).1.1 h;have h1:nc false c=true:=by simp[nc,h35]
 rw[qCH,h1,if_neg (by simp)]
theorem qHR(c:UInt8)(l:Bs)(h0:cl c≠0)(h5:cl c≠5):sk false (c::l)=c::l:=by
 have h35:¬c.toNat=35:=fun e=>h5 ((qCO c).1.2 e);have h1:nc false c=false:=by simp[nc,h35]
 rw[qCH,if_pos ⟨h1,h0⟩]
def wb(c:UInt8):Bool:=decide (1<=cl c) && decide (cl c<=3)
def db(c:UInt8):Bool:=decide (cl c=2)
def tl:Bs->Nat
 |[]=>0
 |c::l=>
  if cl c=1 then 1+(l.takeWhile wb).length
  else if cl c=2 then 1+(l.takeWhile db).length
  else if cl c=4 then 1
  else if cl c=6 then (if l.head? =some 62 then 2 else 0)
  else 0
def dg(c:UInt8):Nat:=c.toNat-48
theorem qKq(c:UInt8):dg c=c.toNat-48:=rfl
attribute [irreducible] dg
def dv:Nat->Bs->Nat
 |n,[]=>n
 |n,c::l=>dv (10*n+dg c) l
theorem qDr(n:Nat)(c:UInt8)(l:Bs):dv n (c::l)=dv (10*n+dg c) l:=by rw[dv]
theorem qIG(l:Bs)(c:UInt8):∀n:Nat,dv n (l++[c])=10*dv n l+dg c:=by
 induction l with
 |nil=>intro n;rfl
 |cons d l ih=>intro n;rw[List.cons_append,qDr,qDr];exact ih _
structure Tok where
 kind:Int
 text:Bs
 n:Int
 at_:Nat
def nx(a:Nat)(l:Bs):Except Int Tok:=
 match l with
 |[]=> .error 2
 |c::r=>
  if tl (c::r)=0 then .error 2
  else if cl c=1 then (if tl (c::r)>16 then .error 4 else .ok ⟨0,(c::r).take (tl (c::r)),0,a⟩)
  else if cl c=2 then (if dv 0 ((c::r).take (tl (c::r)))>1099511627776 then .error 4 else .ok ⟨1,(c::r).take (tl (c::r)),dv 0 ((c::r).take (tl (c::r))),a⟩)
  else .ok ⟨2,(c::r).take (tl (c::r)),0,a⟩
theorem qI3:∀l:Bs,tl l<=l.length
 |[]=>Nat.le_refl _
 |c::l=>by
  have h1:=(List.takeWhile_sublist wb (l:=l)).length_le;have h2:=(List.takeWhile_sublist db (l:=l)).length_le;have h3:l.head? =some 62->1<=l.length:=by
   intro h;cases l with
   |nil=>simp at h
   |cons d l=>simp
  rw[tl,List.length_cons];by_cases a1:cl c=1
  ·rw[if_pos a1];omega
  ·by_cases a2:cl c=2
   ·rw[if_neg a1,if_pos a2];omega
   ·by_cases a4:cl c=4
    ·rw[if_neg a1,if_neg a2,if_pos a4];omega
    ·by_cases a6:cl c=6
     ·rw[if_neg a1,if_neg a2,if_neg a4,if_pos a6]
      by_cases a7:l.head? =some 62
      ·rw[if_pos a7];have:=h3 a7;omega
      ·rw[if_neg a7];omega
     ·rw[if_neg a1,if_neg a2,if_neg a4,if_neg a6];omega
theorem qGk{a:Nat}{l:Bs}{t:Tok}(h:nx a l=.ok t):0<tl l/\t.text=l.take (tl l)/\t.at_=a:=by
 cases l with
 |nil=>simp[nx]at h
 |cons c r=>
  unfold nx at h;simp only[]at h;by_cases h0:tl (c::r)=0
  ·rw[if_pos h0]at h;cases h
  ·rw[if_neg h0]at h
   refine⟨by omega,?_⟩;by_cases h1:cl c=1
   ·rw[if_pos h1]at h
    by_cases h2:tl (c::r)>16
    ·rw[if_pos h2]at h;cases h
    ·rw[if_neg h2]at h;cases h;exact⟨rfl,rfl⟩
   ·rw[if_neg h1]at h
    by_cases h2:cl c=2
    ·rw[if_pos h2]at h
     by_cases h3:dv 0 ((c::r).take (tl (c::r)))>1099511627776
     ·rw[if_pos h3]at h;cases h
     ·rw[if_neg h3]at h;cases h;exact⟨rfl,rfl⟩
    ·rw[if_neg h2]at h;cases h;exact⟨rfl,rfl⟩
def qKj(N:Nat):Nat->Bs->Except (Nat×Int) (List Tok)
 |0,_=> .ok []
 |f+1,l=>
  match sk false l with
  |[]=> .ok []
  |c::r=>
   match nx (N-(c::r).length) (c::r)with
   |.error e=> .error (N-(c::r).length,e)
   |.ok t=>
    match qKj N f ((c::r).drop (tl (c::r)))with
    |.error x=> .error x
    |.ok ts=> .ok (t::ts)
def lx(N:Nat)(l:Bs):Except (Nat×Int) (List Tok):=qKj N (l.length+1) l
theorem qFL(N:Nat):∀(f g:Nat) (l:Bs),l.length<f->l.length<g->qKj N f l=qKj N g l
 |0,_,_,h,_=>by omega
 |_,0,_,_,h=>by omega
 |f+1,g+1,l,hf,hg=>by
  rw[qKj,qKj];cases hs:sk false l with
  |nil=>rfl
  |cons c r=>
   simp only[];cases hn:nx (N-(c::r).length) (c::r)with
   |error e=>rfl
   |ok t=>
    simp only[];have h0:=(qGk hn).1;have hlen:(c::r).length<=l.length:=by rw[<-hs];exact qDW _ _
    have hd:((c::r).drop (tl (c::r))).length<l.length:=by
     rw[List.length_drop];have:0<(c::r).length:=by simp
     omega
    rw[qFL N f g _ (by omega) (by omega)]
theorem qEf(N:Nat)(l:Bs):lx N l=match sk false l with
 |[]=> .ok []
 |c::r=>
  match nx (N-(c::r).length) (c::r)with
  |.error e=> .error (N-(c::r).length,e)
  |.ok t=>
   match lx N ((c::r).drop (tl (c::r)))with
   |.error x=> .error x
   |.ok ts=> .ok (t::ts):=by
 rw[lx,qKj];cases hs:sk false l with
 |nil=>rfl
 |cons c r=>
  simp only[];cases hn:nx (N-(c::r).length) (c::r)with
  |error e=>rfl
  |ok t=>
   simp only[];have h0:=(qGk hn).1;have hlen:(c::r).length<=l.length:=by rw[<-hs];exact qDW _ _
   have hd:((c::r).drop (tl (c::r))).length<l.length:=by
    rw[List.length_drop];have:0<(c::r).length:=by simp
    omega
   rw[lx,qFL N l.length (((c::r).drop (tl (c::r))).length+1) _ hd (by omega)]
theorem qLa(N:Nat)(cm:Bool)(l:Bs):lx N (sk cm l)=match sk cm l with
 |[]=> .ok []
 |c::r=>
  match nx (N-(c::r).length) (c::r)with
  |.error e=> .error (N-(c::r).length,e)
  |.ok t=>
   match lx N ((c::r).drop (tl (c::r)))with
   |.error x=> .error x
   |.ok ts=> .ok (t::ts):=by
 rw[qEf,qEX]
theorem qDn(N:Nat)(l:Bs):lx N (sk false l)=lx N l:=by
 rw[qLa,<-qEf]
theorem qEe(N:Nat):∀(n:Nat) (l:Bs) (ts:List Tok),l.length<=n->lx N l=.ok ts->ts.length<=l.length
 |n,l,ts,hn,h=>by
  rw[qEf]at h;cases hs:sk false l with
  |nil=>rw[hs]at h;cases h;simp
  |cons c r=>
   rw[hs]at h;simp only[]at h;cases hx:nx (N-(c::r).length) (c::r)with
   |error e=>rw[hx]at h;cases h
   |ok t=>
    rw[hx]at h;simp only[]at h;have h0:=(qGk hx).1;have hle:(c::r).length<=l.length:=by rw[<-hs];exact qDW _ _
    have hd:((c::r).drop (tl (c::r))).length<l.length:=by
     rw[List.length_drop];have:0<(c::r).length:=by simp
     omega
    cases hy:lx N ((c::r).drop (tl (c::r)))with
    |error e=>rw[hy]at h;cases h
    |ok us=>
     rw[hy]at h;cases h
     match n,hn with
     |0,hn=>omega
     |m+1,hn=>
      have:=qEe N m _ us (by omega) hy;simp only[List.length_cons]at *;omega
theorem qJl{a:Nat}{l:Bs}{e:Int}(h:nx a l=.error e):e=2\/e=4:=by
 cases l with
 |nil=>simp[nx]at h;exact .inl h.symm
 |cons c r=>
  unfold nx at h;simp only[]at h;by_cases h0:tl (c::r)=0
  ·rw[if_pos h0]at h;cases h;exact .inl rfl
  ·rw[if_neg h0]at h
   by_cases h1:cl c=1
   ·rw[if_pos h1]at h
    by_cases h2:tl (c::r)>16
    ·rw[if_pos h2]at h;cases h;exact .inr rfl
    ·rw[if_neg h2]at h;cases h
   ·rw[if_neg h1]at h
    by_cases h2:cl c=2
    ·rw[if_pos h2]at h
     by_cases h3:dv 0 ((c::r).take (tl (c::r)))>1099511627776
     ·rw[if_pos h3]at h;cases h;exact .inr rfl
     ·rw[if_neg h3]at h;cases h
    ·rw[if_neg h2]at h;cases h
theorem qJY(N:Nat):∀(n:Nat) (l:Bs) (k:Nat) (e:Int),l.length<=n->lx N l=.error (k,e)->(e=2\/e=4)/\(l.length<=N->N-l.length<=k/\k<N)
 |n,l,k,e,hn,h=>by
  rw[qEf]at h;cases hs:sk false l with
  |nil=>rw[hs]at h;cases h
  |cons c r=>
   rw[hs]at h;simp only[]at h;have hle:(c::r).length<=l.length:=by rw[<-hs];exact qDW _ _
   have hpos:0<(c::r).length:=by simp
   cases hx:nx (N-(c::r).length) (c::r)with
   |error e'=>rw[hx]at h;cases h;exact⟨qJl hx,fun h=>by omega⟩
   |ok t=>
    rw[hx]at h;simp only[]at h;have h0:=(qGk hx).1;have hd:((c::r).drop (tl (c::r))).length<l.length:=by
     rw[List.length_drop];omega
    cases hy:lx N ((c::r).drop (tl (c::r)))with
    |ok us=>rw[hy]at h;cases h
    |error x=>
     rw[hy]at h;cases h
     match n,hn with
     |0,hn=>omega
     |m+1,hn=>
      have:=qJY N m _ k e (by omega) hy;exact⟨this.1,fun h=>by have:=this.2 (by omega);omega⟩
structure Pr where
 n:Int
 name:Bs
 at_:Int
deriving DecidableEq
structure Dc where
 kind:Int
 name:Bs
 at_:Int
 object:Bool
 mixed:Bool
 coin:Bool
 wear:Int
 bind:Int
 level:Int
 time:Int
 chance:Int
 of_:Int
 take:List Pr
 give:List Pr
 back:List Pr
 rows:List (List Pr)
 brs:List (Int×Int)
def Dc.zero(kind:Int)(name:Bs)(at_:Int):Dc:=⟨kind,name,at_,false,false,false,0,0,0,0,0,0,[],[],[],[],[]⟩
abbrev Rd(α:Type):=Except (List Tok) (α×List Tok)
def Tok.is(t:Tok)(k:Int)(s:Bs):Bool:=t.kind==k && (s.isEmpty||t.text==s)
def qAR(k:Int)(s:Bs):List Tok->Rd Tok
 |[]=> .error []
 |t::r=>if t.is k s then .ok (t,r)else .error (t::r)
def isT(k:Int)(s:Bs):List Tok->Bool
 |[]=>false
 |t::_=>t.is k s
theorem qGi(k:Int)(s:Bs)(l:List Tok):qAR k s l=if isT k s l then (match l with|t::r=> .ok (t,r)|[]=> .error [])else .error l:=by
 cases l with
 |nil=>rfl
 |cons t r=>rfl
def qAE:List Tok->Rd (List Pr)
 |[]=> .error []
 |a::l=>
  if a.is 1 []then
   match l with
   |[]=> .error []
   |b::r=>
    if b.is 0 []then
     match r with
     |[]=> .ok ([⟨a.n,b.text,b.at_⟩],[])
     |c::r'=>
      if c.is 2 [44]then
       match qAE r' with
       |.ok (x,z)=> .ok (⟨a.n,b.text,b.at_⟩::x,z)
       |.error z=> .error z
      else .ok ([⟨a.n,b.text,b.at_⟩],c::r')
    else .error (b::r)
  else .error (a::l)
def qDK:List Tok->Rd (List (Int×Int))
 |[]=> .error []
 |a::l=>
  if a.is 1 []then
   match l with
   |[]=> .error []
   |b::r=>
    if b.is 2 [58]then
     match r with
     |[]=> .error []
     |c::r'=>
      if c.is 1 []then
       match r' with
       |[]=> .ok ([(a.n,c.n)],[])
       |d::r2=>
        if d.is 2 [44]then
         match qDK r2 with
         |.ok (x,z)=> .ok ((a.n,c.n)::x,z)
         |.error z=> .error z
        else .ok ([(a.n,c.n)],d::r2)
      else .error (c::r')
    else .error (b::r)
  else .error (a::l)
def qDz(l:List Tok):Rd (List Pr):=
 match qAR 1 [] l with
 |.error z=> .error z
 |.ok (a,l1)=>
  match qAR 2 [58] l1 with
  |.error z=> .error z
  |.ok (_,l2)=>
   if isT 1 [] l2 then
    match qAE l2 with
    |.error z=> .error z
    |.ok (x,z)=> .ok (⟨a.n,[],a.at_⟩::x,z)
   else .ok ([⟨a.n,[],a.at_⟩],l2)
def qBk:Nat->List Tok->Rd (List (List Pr))
 |0,l=> .error l
 |f+1,l=>
  match qDz l with
  |.error z=> .error z
  |.ok (x,l1)=>
   if isT 2 [43] l1 then
    match qBk f (l1.drop 1)with
    |.error z=> .error z
    |.ok (y,z)=> .ok (x::y,z)
   else .ok ([x],l1)
def qAQ:Bs:=[111,98,106,101,99,116]
def qBf:Bs:=[109,105,120,101,100]
def qCc:Bs:=[99,111,105,110]
def qDb:Bs:=[119,101,97,114]
def qEV:Bs:=[98,105,110,100]
def qAO:Bs:=[108,101,118,101,108]
def qCS:Bs:=[116,105,109,101]
def qAL:Bs:=[99,104,97,110,99,101]
def qDc:Bs:=[116,97,107,101]
def qDe:Bs:=[103,105,118,101]
def qDf:Bs:=[98,97,99,107]
def qG9:Bs:=[117,115,101]
def qHO:Bs:=[103,101,116]
def wOf:Bs:=[111,102]
def qDd:Bs:=[105,116,101,109]
def qDI:Bs:=[114,117,108,101]
def qCg:Bs:=[115,112,97,119,110]
def qEr:Bs:=[108,111,111,116]
def qI1:Bs:=[116,97,120]
inductive Fg|object|mixed|coin|wear|bind|level|time|chance|take|give|back
deriving DecidableEq
def Fg.word:Fg->Bs
 |object=>qAQ|mixed=>qBf|coin=>qCc|wear=>qDb|bind=>qEV|level=>qAO
 |time=>qCS|chance=>qAL|take=>qDc|give=>qDe|back=>qDf
def qCb:List Fg:=[.object,.mixed,.coin,.wear,.bind,.level]
def qBI:List Fg:=[.level,.time,.chance,.take,.give,.back]
def qBg(l:List Tok):Rd Int:=
 match qAR 1 [] l with
 |.error z=> .error z
 |.ok (t,r)=> .ok (t.n,r)
def pFg(x:Fg)(d:Dc)(l:List Tok):Rd Dc:=
 match x with
 |.object=> .ok ({ d with object:=true },l)
 |.mixed=> .ok ({ d with mixed:=true },l)
 |.coin=> .ok ({ d with coin:=true },l)
 |.wear=>match qBg l with|.error z=> .error z|.ok (n,r)=> .ok ({ d with wear:=n },r)
 |.level=>match qBg l with|.error z=> .error z|.ok (n,r)=> .ok ({ d with level:=n },r)
 |.time=>match qBg l with|.error z=> .error z|.ok (n,r)=> .ok ({ d with time:=n },r)
 |.bind=>if isT 0 qG9 l then .ok ({ d with bind:=2 },l.drop 1)else if isT 0 qHO l then .ok ({ d with bind:=1 },l.drop 1)else .error l
 |.chance=>
  match qBg l with
  |.error z=> .error z
  |.ok (n,l1)=>
   match qAR 0 wOf l1 with
   |.error z=> .error z
   |.ok (_,l2)=>
    match qBg l2 with
    |.error z=> .error z
    |.ok (m,l3)=> .ok ({ d with chance:=n,of_:=m },l3)
 |.take=>match qAE l with|.error z=> .error z|.ok (x,r)=> .ok ({ d with take:=x },r)
 |.give=>match qAE l with|.error z=> .error z|.ok (x,r)=> .ok ({ d with give:=x },r)
 |.back=>match qAE l with|.error z=> .error z|.ok (x,r)=> .ok ({ d with back:=x },r)
def qAX(known:List Fg):Nat->List Fg->Dc->List Tok->Rd Dc
 |0,_,_,l=> .error l
 |f+1,seen,d,l=>
  match l with
  |[]=> .ok (d,[])
  |t::r=>
   if t.is 0 []then
    match known.find? (fun x=>t.text==x.word)with
    |none=> .error (t::r)
    |some x=>
     if seen.contains x then .error (t::r)
     else
      match pFg x d r with
      |.error z=> .error z
      |.ok (d',l')=>qAX known f (x::seen) d' l'
   else .ok (d,t::r)
def qAo:List Bs:=[qDd,qDI,qCg,qEr,qI1]
def qBP(l:List Tok):Option Nat:=qAo.findIdx? (fun x=>isT 0 x l)
def qA7(k:Nat)(d:Dc)(l:List Tok):Rd Dc:=
 if k=0 then qAX qCb (l.length+1) [] d l
 else if k<=2 then qAX qBI (l.length+1) [] d l
 else if k=3 then match qBk (l.length+1) l with|.error z=> .error z|.ok (x,r)=> .ok ({ d with rows:=x },r)
 else match qDK l with|.error z=> .error z|.ok (x,r)=> .ok ({ d with brs:=x },r)
def qBl(l:List Tok):Rd Dc:=
 match qBP l with
 |none=> .error l
 |some k=>
  match qAR 0 [] (l.drop 1)with
  |.error z=> .error z
  |.ok (t,l2)=>
   match qA7 k (Dc.zero k t.text t.at_) l2 with
   |.error z=> .error z
   |.ok (d,l3)=>
    match qAR 2 [59] l3 with
    |.error z=> .error z
    |.ok (_,l4)=> .ok (d,l4)
def qEo:Nat->List Tok->Except (List Tok) (List Dc)
 |0,l=> .error l
 |f+1,l=>
  match l with
  |[]=> .ok []
  |_::_=>
   match qBl l with
   |.error z=> .error z
   |.ok (d,r)=>
    match qEo f r with
    |.error z=> .error z
    |.ok ds=> .ok (d::ds)
def qKX(N:Nat):List Tok->Nat
 |[]=>N
 |t::_=>t.at_
def qDy(N:Nat)(l:List Tok):Except (Nat×Int) (List Dc):=
 match qEo (l.length+1) l with
 |.error z=> .error (qKX N z,2)
 |.ok ds=> .ok ds
def qAt(s:Bs):Except (Nat×Int) (List Dc):=
 match (if 8192<s.length then .error (0,4)else lx s.length s)with
 |.error x=> .error x
 |.ok ts=>qDy s.length ts
theorem qAu{k:Int}{s:Bs}{l r:List Tok}{t:Tok}(h:qAR k s l=.ok (t,r)):r.length+1=l.length:=by
 cases l with
 |nil=>cases h
 |cons a l=>
  simp only[qAR]at h
  split at h
  ·cases h;rfl
  ·cases h
theorem qC1:∀(n:Nat) (l:List Tok) {x:List Pr} {r:List Tok},l.length<=n->qAE l=.ok (x,r)->r.length<l.length
 |n,[],_,_,_,h=>by rw[qAE]at h;cases h
 |n,[a],_,_,_,h=>by
  rw[qAE]at h
  split at h<;>cases h
 |n,a::b::[],_,_,_,h=>by
  rw[qAE]at h
  split at h
  ·split at h
   ·cases h;simp
   ·cases h
  ·cases h
 |0,a::b::c::r',_,_,hn,_=>by simp at hn
 |n+1,a::b::c::r',x,r,hn,h=>by
  rw[qAE]at h
  split at h
  ·split at h
   ·split at h
    ·cases hx:qAE r' with
     |error z=>rw[hx]at h;cases h
     |ok y=>
      rw[hx]at h;cases h;have:=qC1 n r' (x:=y.1) (r:=y.2) (by simp at hn;omega) hx;simp;omega
    ·cases h;simp
   ·cases h
  ·cases h
theorem qC0{l r:List Tok}{x:List Pr}(h:qDz l=.ok (x,r)):r.length<l.length:=by
 unfold qDz at h;cases h1:qAR 1 [] l with
 |error z=>rw[h1]at h;cases h
 |ok y=>
  obtain⟨a,l1⟩:=y;rw[h1]at h;have e1:=qAu h1;simp only[]at h;cases h2:qAR 2 [58] l1 with
  |error z=>rw[h2]at h;cases h
  |ok y=>
   obtain⟨b,l2⟩:=y;rw[h2]at h;have e2:=qAu h2;simp only[]at h
   split at h
   ·cases h3:qAE l2 with
    |error z=>rw[h3]at h;cases h
    |ok y=>
     rw[h3]at h;cases h;have:=qC1 _ l2 (x:=y.1) (r:=y.2) (Nat.le_refl _) h3;omega
   ·cases h;omega
def val(b:Nat):List Nat->Nat
 |[]=>0
 |x::xs=>x+b*val b xs
def qFW(b:Nat):Nat->Nat->List Nat
 |0,_=>[]
 |f+1,n=>if n=0 then []else n%b::qFW b f (n/b)
def qKY(b n:Nat):List Nat:=qFW b n n
theorem qER(b:Nat)(hb:2<=b):∀(f g n:Nat),n<=f->n<=g->qFW b f n=qFW b g n
 |0,0,_,_,_=>rfl
 |0,g+1,n,hf,_=>by
  have:n=0:=by omega
  subst this;simp[qFW]
 |f+1,0,n,_,hg=>by
  have:n=0:=by omega
  subst this;simp[qFW]
 |f+1,g+1,n,hf,hg=>by
  unfold qFW;by_cases h:n=0
  ·rw[if_pos h,if_pos h]
  ·rw[if_neg h,if_neg h]
   have h2:n/b<n:=Nat.div_lt_self (by omega) (by omega);rw[qER b hb f g (n/b) (by omega) (by omega)]
theorem qJF(b n:Nat)(hb:2<=b)(hn:n≠0):qKY b n=n%b::qKY b (n/b):=by
 unfold qKY;cases n with
 |zero=>exact absurd rfl hn
 |succ m=>
  have h2:(m+1)/b<m+1:=Nat.div_lt_self (by omega) (by omega)
  conv=>lhs;unfold qFW
  rw[if_neg hn,qER b hb m ((m+1)/b) _ (by omega) (Nat.le_refl _)]
abbrev Tx:=List UInt8
def dch(d:Nat):UInt8:=UInt8.ofNat (48+d)
def qGB(n:Nat):Tx:=(qKY 10 n).reverse.map dch
def dec(n:Nat):Tx:=if n=0 then [48]else qGB n
def pad:Nat->Nat->Tx
 |0,_=>[]
 |k+1,n=>pad k (n/10)++[dch (n%10)]
theorem qC8:qGB 0=[]:=rfl
theorem qCx(n:Nat)(h:n≠0):qGB n=qGB (n/10)++[dch (n%10)]:=by
 unfold qGB;rw[qJF 10 n (by omega) h,List.reverse_cons,List.map_append];rfl
theorem qE7:∀k,pad k 0=List.replicate k 48
 |0=>rfl
 |k+1=>by rw[pad,qE7 k,List.replicate_succ'];rfl
theorem qE8:∀(k r:Nat),r<10^k->pad k r=List.replicate (k-(qGB r).length) 48++qGB r/\(qGB r).length<=k
 |0,r,hr=>by
  have:r=0:=by simpa using hr
  subst this;simp[pad,qC8]
 |k+1,r,hr=>by
  have h10:10^(k+1)=10*10^k:=by rw[Nat.pow_succ,Nat.mul_comm]
  by_cases h:r=0
  ·subst h
   rw[qE7];simp[qC8]
  ·have ih:=qE8 k (r/10) (by omega)
   rw[qCx r h,pad,ih.1,List.length_append,List.length_singleton,List.append_assoc];refine⟨?_,by omega⟩
   congr 2
   omega
theorem qKc(k r:Nat)(hk:0<k)(hr:r<10^k):pad k r=List.replicate (k-(dec r).length) 48++dec r/\(dec r).length<=k:=by
 unfold dec;by_cases h:r=0
 ·subst h
  rw[if_pos rfl,qE7];refine⟨?_,hk⟩;obtain⟨k,rfl⟩:∃m,k=m+1:=⟨k-1,by omega⟩;rw[List.replicate_succ'];rfl
 ·rw[if_neg h];exact qE8 k r hr
def dvT(n:Nat):Tx->Nat
 |[]=>n
 |c::l=>dvT (10*n+(c.toNat-48)) l
def qGH(c:UInt8):Prop:=48<=c.toNat/\c.toNat<=57
theorem qIL(d:Nat)(h:d<10):qGH (dch d)/\(dch d).toNat-48=d/\(dch d=48 ↔ d=0):=by
 have h1:(dch d).toNat=48+d:=by unfold dch;rw[UInt8.toNat_ofNat'];omega
 refine⟨⟨by omega,by omega⟩,by omega,⟨fun h=> ?_,fun h=>by subst h;rfl⟩⟩;rw[h]at h1;simp at h1;omega
theorem qHH(n:Nat)(l m:Tx):dvT n (l++m)=dvT (dvT n l) m:=by
 induction l generalizing n with
 |nil=>rfl
 |cons c l ih=>exact ih _
theorem qJG:∀n:Nat,(∀c∈qGB n,qGH c)/\dvT 0 (qGB n)=n/\(n≠0->∃c l,qGB n=c::l/\c≠48):=by
 intro n
 induction n using Nat.strongRecOn with
 |_ n ih=>
  by_cases h:n=0
  ·subst h
   exact⟨fun c hc=>(by cases hc),rfl,fun h=>absurd rfl h⟩
  ·have hlt:=Nat.div_lt_self (n:=n) (k:=10) (by omega) (by omega)
   obtain⟨i1,i2,i3⟩:=ih (n/10) hlt;have hd:=qIL (n%10) (Nat.mod_lt _ (by omega));rw[qCx n h];refine⟨fun c hc=> ?_,?_,fun _=> ?_⟩
   ·rcases List.mem_append.1 hc with h|h
    ·exact i1 c h
    ·rw[List.mem_singleton.1 h];exact hd.1
   ·rw[qHH,i2]
    show 10*(n/10)+((dch (n%10)).toNat-48)=n
    rw[hd.2.1];omega
   ·by_cases h2:n/10=0
    ·rw[h2,qC8]
     refine⟨_,_,rfl,fun hc=> ?_⟩;have:=hd.2.2.1 hc;omega
    ·obtain⟨c,l,hc,hc2⟩:=i3 h2
     rw[hc];exact⟨c,_,rfl,hc2⟩
theorem qIK(n:Nat):(∀c∈dec n,qGH c)/\dvT 0 (dec n)=n/\∃c l,dec n=c::l/\(c=48->l=[]):=by
 unfold dec;by_cases h:n=0
 ·subst h
  refine⟨fun c hc=> ?_,rfl,48,[],rfl,fun _=>rfl⟩;rw[if_pos rfl]at hc;rw[List.mem_singleton.1 hc];exact⟨by decide,by decide⟩
 ·rw[if_neg h]
  obtain⟨i1,i2,i3⟩:=qJG n;obtain⟨c,l,hc,hc2⟩:=i3 h;exact⟨i1,i2,c,l,hc,fun h=>absurd h hc2⟩
theorem qHK(n k:Nat)(hk:0<k)(h:n<10^k):(dec n).length<=k:=(qKc k n hk h).2
def qAm(n:Int):Bs:=dec n.toNat
def prL:Bool->List Pr->Bs
 |_,[]=>[]
 |later,p::l=>(if later then ([44]:Bs)else [])++32::qAm p.n++32::p.name++prL true l
def qAB(w:Bs)(l:List Pr):Bs:=if l.isEmpty then []else 32::w++prL false l
def qAz(w:Bs)(n:Int):Bs:=if n=0 then []else 32::w++32::qAm n
def qB0(w:Bs)(b:Bool):Bs:=if b then 32::w else []
def qBb(n:Int):Bs:=if n=1 then 32::qEV++32::qHO else if n=2 then 32::qEV++32::qG9 else []
def qAl(n m:Int):Bs:=if n=0/\m=0 then []else 32::qAL++32::qAm n++32::wOf++32::qAm m
def qFN:List Pr->Int
 |[]=>0
 |p::_=>p.n
def qAr:Bool->List (List Pr)->Bs
 |_,[]=>[]
 |later,r::l=>(if later then ([32,43]:Bs)else [])++(32::qAm (qFN r)++(58::prL false r.tail))++qAr true l
def qBa:Bool->List (Int×Int)->Bs
 |_,[]=>[]
 |later,b::l=>(if later then ([44]:Bs)else [])++32::qAm b.1++58::32::qAm b.2++qBa true l
def qAf(d:Dc):List Bs:=
 if d.kind=0 then [qB0 qAQ d.object,qB0 qBf d.mixed,qB0 qCc d.coin,qAz qDb d.wear,qBb d.bind,qAz qAO d.level]
 else if d.kind<=2 then [qAz qAO d.level,qAz qCS d.time,qAl d.chance d.of_,qAB qDc d.take,qAB qDe d.give,qAB qDf d.back]
 else [qAr false d.rows++qBa false d.brs]
def qHi(l:List Bs)(k:Nat):Bs:=(l.drop k++l.take k).flatten
def qBw(d:Dc)(k:Nat):Bs:=qAo.getD d.kind.toNat []++32::d.name++qHi (qAf d) k++[59,10]
def qBK(d:Dc):Bool:=d.object||d.mixed||d.coin||d.wear != 0||d.bind != 0
def qB9(d:Dc):Bool:=d.time != 0||d.chance != 0||d.of_ != 0|| !d.take.isEmpty|| !d.give.isEmpty|| !d.back.isEmpty
def qEt(r:List Pr):Bool:=match r with|[]=>false|p::_=>p.name.isEmpty
def qAN(d:Dc):Bool:=
 if d.kind=0 then !qB9 d && d.rows.isEmpty && d.brs.isEmpty && decide (0<=d.bind) && decide (d.bind<=2)
 else if d.kind=1\/d.kind=2 then !qBK d && d.rows.isEmpty && d.brs.isEmpty
 else if d.kind=3 then !qBK d && !qB9 d && d.level==0 && d.brs.isEmpty && !d.rows.isEmpty && d.rows.all qEt
 else if d.kind=4 then !qBK d && !qB9 d && d.level==0 && d.rows.isEmpty && !d.brs.isEmpty
 else false
def qBt(s:Bs):Bool:=match (if 8192<s.length then .error (0,4)else lx s.length s)with
 |.ok [t]=>t.kind==0 && t.text==s
 |_=>false
def qAJ(l:List Pr):Bool:=l.all (fun p=>qBt p.name)
def qDL(d:Dc):Bool:=qBt d.name && (qAJ d.take && qAJ d.give && qAJ d.back) && d.rows.all (fun r=>qAJ r.tail)
def qAj(n:Int):Bool:=decide (0<=n) && decide (n<=1099511627776)
def okL(l:List Pr):Bool:=l.all (fun p=>qAj p.n)
def qBs(d:Dc):Bool:=qAj d.wear && qAj d.level && qAj d.time && qAj d.chance && qAj d.of_ && okL d.take && okL d.give && okL d.back && d.rows.all okL && d.brs.all (fun b=>qAj b.1 && qAj b.2)
def qFk(d:Dc):Int:=if !qAN d then 1 else if !qDL d then 6 else if !qBs d then 5 else 0
def qJ0:List Dc->Int
 |[]=>0
 |d::l=>if qFk d=0 then qJ0 l else qFk d
def qBe(l:List Dc):Bs:=(l.map (fun d=>qBw d 0)).flatten
def qCX(l:List Dc):Bs×Int:=if qJ0 l=0 then (if 8192<(qBe l).length then ([],4)else (qBe l,0))else ([],qJ0 l)
theorem qHb(l:List Dc)(d:Dc):qBe (l++[d])=qBe l++qBw d 0:=by simp[qBe]
open Go Go.RowKit
def qEu(fn:FuncId)(tmps:Array Value)(ps:Array Tmp)(assign body:Code)(D:Nat)(st:LoopState)(pe:Option Code):Loop:=
 { state:=st,pending:=pe,fn:=fn,tmps:=tmps,params:=ps,assign:=assign,body:=body,defers:=D }
def qDZ(l:Nat)(rec:LoopState->Option Code->Loop)(R:Ending->World->Prop):Exit->Act->World->Prop
 |.normal,_,W=>W.heap[l]? =some (.loop (rec .busy none))/\R (.returned (.bool true)) (W.putObj l (.loop (rec .ready none)))
 |.ret,_,W=>W.heap[l]? =some (.loop (rec .busy none))/\R (.returned (.bool false)) (W.putObj l (.loop (rec .done (some .ret))))
 |_,_,_=>False
theorem qDU{F:Fence}{m:Nat}{P:Program}{l D:Nat}{fn:FuncId}{tmps:Array Value}{ps:Array Tmp}{assign body:Code}{args:Array Value}{W:World}{R:Ending->World->Prop}(hfn:F.fn fn)
 (hl:W.heap[l]? =some (.loop (qEu fn tmps ps assign body D .ready none)))(hps:args.size=ps.size)
 (h:assign.wpIn (F.inRound l) m P (Exit.then (fun a₁ W₁=>W₁.heap[l]? =some (.loop (qEu fn tmps ps assign body D .ready none))/\
  body.wpIn (F.inRound l) m P (qDZ l (qEu fn tmps ps assign body D) R) a₁ (W₁.putObj l (.loop (qEu fn tmps ps assign body D .busy none)))) (fun _ _ _=>False))
  { tmps:=(ps.zip args).foldl (fun t (p,v)=>t.setIfInBounds p v) tmps,defers:=[] } W):
 YieldAt F m P l args W R:=by
 have hy:=run_yield (P:=P) (args:=args) hl hps;refine⟨fn,_,assign,body,hy,roundIn_of_wpIn hfn (wpIn_mono h ?_)⟩;rintro e a₁ W₁ hq;cases e with
 |normal=>
  obtain⟨hl1,hb⟩:=hq;refine⟨_,run_beginRound hl1 rfl,wpIn_mono hb ?_⟩;rintro e a₂ W₂ hp;cases e with
  |normal=>
   obtain⟨hl2,hr⟩:=hp;exact⟨_,_,run_endRound none hl2,hr⟩
  |ret=>
   obtain⟨hl2,hr⟩:=hp;exact⟨_,_,run_endRound (some .ret) hl2,hr⟩
  |exit id=>exact hp.elim
  |goto t=>exact hp.elim
  |panic c=>exact hp.elim
  |outgrown=>exact hp.elim
 |exit id=>exact hq.elim
 |goto t=>exact hq.elim
 |ret=>exact hq.elim
 |panic c=>exact hq.elim
 |outgrown=>exact hq.elim
def qH5(_F:Fence)(_n:Nat)(_P:Program)(l:Nat)(rec:LoopState->Option Code->Loop)(Q:Exit->Act->World->Prop)(a:Act)(W:World):Prop:=
 (W.heap[l]? =some (.loop (rec .ready none))/\Q .normal a (W.putObj l (.loop (rec .exhausted none))))\/
 (W.heap[l]? =some (.loop (rec .done (some .ret)))/\Q .ret a (W.putObj l (.loop (rec .exhausted (some .ret)))))
theorem qHm{F:Fence}{n:Nat}{P:Program}{g:Operand}{ps:Array Tmp}{assign body:Code}{Q:Exit->Act->World->Prop}{a:Act}{w:World}
 (hro:F.round=none)(h1:1<=n){gf:Nat}{lb:Array Value}(hg:a.eval g=.func (.func gf) #[] lb)(hFg:F.fn gf)(eg:∀args w,(callFunc gf args).run P w=.ok (.enter gf args) w)
 (h:∀fn,F.fn fn->CallsIn F (n-1) P gf (#[.func (.yield (w.heap.size+1)) #[] #[]]++lb)
  ((w.alloc (.deferred (some []))).alloc (.loop (qEu fn a.tmps ps assign body w.heap.size .ready none)))
  fun e W'=>(∃v,e=.returned v)/\qH5 F n P (w.heap.size+1) (qEu fn a.tmps ps assign body w.heap.size) Q { a with defers:={ target:=.collected w.heap.size,args:=#[] }::a.defers } W'):
 (Code.rangeFunc g ps assign body).wpIn F n P Q a w:=by
 refine wpIn_rangeFunc ?_;intro fn hfn;rw[hro];obtain⟨W1,hW1⟩:∃W1,(w.alloc (.deferred (some []))).alloc (.loop (qEu fn a.tmps ps assign body w.heap.size .ready none))=W1:=⟨_,rfl⟩;have hc:=h fn hfn;rw[hW1]at hc;refine⟨w.heap.size+1,[{ target:=.collected w.heap.size,args:=#[] }],W1,{ target:=.fn (.func gf) lb,args:=#[.func (.yield (w.heap.size+1)) #[] #[]] },W1,gf,
  #[.func (.yield (w.heap.size+1)) #[] #[]]++lb,W1,?_,?_,?_,?_,fun _=>h1,?_⟩
 ·rw[<-hW1];exact run_enterLoop_outer _ _ _ _ _
 ·simp only[resolve,hg]
  simp[go_sem]
 ·intro f' hf';simp[Target.leads]at hf';subst hf';exact hFg
 ·simp[invoke,go_sem,eg]
 ·refine hc.mono ?_
  clear hc h hW1;rintro e W ⟨⟨v,rfl⟩,⟨hl,hq⟩|⟨hl,hq⟩⟩
  ·have hr:=run_endLoop (P:=P) hl (by simp[qEu])
   exact⟨none,_,hr,hq⟩
  ·have hr:=run_endLoop (P:=P) hl (by simp[qEu])
   refine⟨some .ret,_,hr,?_⟩;exact wpIn_ret hq
open Go.RowKit
def iv(k:IntKind)(x:Nat):Value:=.int k (x:Int)
def qDa(k:IntKind)(w:World)(v:Value)(L:List Nat):Prop:=
 ∃a cap,v=.slice a L.length cap/\L.length<=cap/\cap<=9223372036854775807/\(0<L.length->∃b off,a=some ⟨b,off,none⟩/\b<w.heap.size/\∀j (h:j<L.length),w.cell? ⟨b,off+j,none⟩=some (.int k (L[j]:Int)))
section
variable {k:IntKind}{w w':World}{v:Value}{L:List Nat}
theorem qDa.below{B:Nat}(h:qDa k w v L)(hB:w.heap.size<=B)(hb:Below B w w'):qDa k w' v L:=by
 obtain⟨a,cap,hv,h1,h2,hc⟩:=h;refine⟨a,cap,hv,h1,h2,fun h0=> ?_⟩;obtain⟨b,off,ha,hlt,hcc⟩:=hc h0;exact⟨b,off,ha,Nat.lt_of_lt_of_le hlt hb.size,fun j hj=>(hb.cell (p:=⟨b,off+j,none⟩) (Nat.lt_of_lt_of_le hlt hB)).trans (hcc j hj)⟩
theorem qDa.nil(a:Option Addr)(cap:Nat)(hc:cap<=9223372036854775807):qDa k w (.slice a 0 cap) []:=⟨a,cap,rfl,by simp,hc,fun h=>by simp at h⟩
theorem qDa.take(h:qDa k w v L)(n:Nat)(hn:n<=L.length):∃a cap,v=.slice a L.length cap/\L.length<=cap/\cap<=9223372036854775807/\qDa k w (.slice a n cap) (L.take n):=by
 obtain⟨a,cap,hv,h1,h2,hc⟩:=h;have hl:(L.take n).length=n:=by rw[List.length_take];omega
 refine⟨a,cap,hv,h1,h2,a,cap,by rw[hl],by omega,h2,fun h0=> ?_⟩;obtain⟨b,off,ha,hlt,hcc⟩:=hc (by omega);exact⟨b,off,ha,hlt,fun j hj=>by rw[List.getElem_take];exact hcc j (by omega)⟩
theorem qDa.at_(h:qDa k w v L){j:Nat}(hj:j<L.length):∃b off cap,v=.slice (some ⟨b,off,none⟩) L.length cap/\b<w.heap.size/\w.cell? ⟨b,off+j,none⟩=some (.int k (L[j]:Int)):=by
 obtain⟨a,cap,rfl,h1,h2,hc⟩:=h;obtain⟨b,off,rfl,hlt,hcc⟩:=hc (by omega);exact⟨b,off,cap,rfl,hlt,hcc j hj⟩
end
theorem qDa.cells{k:IntKind}{w:World}{a:Option Addr}{n cap:Nat}{L:List Nat}(h:qDa k w (.slice a n cap) L)(h0:0<L.length):∃ad,a=some ad/\∀j u,(L.map (iv k))[j]? =some u->w.cell? (ad.add j)=some u:=by
 obtain⟨a',cap',hv,_,_,hc⟩:=h;injection hv with e1 e2 e3;subst e1;obtain⟨b,off,rfl,hb,hcc⟩:=hc h0;refine⟨_,rfl,fun j u hu=> ?_⟩;have hj:j<L.length:=by
  rcases Nat.lt_or_ge j L.length with h|h
  ·exact h
  ·rw[List.getElem?_eq_none (by rw[List.length_map];exact h)]at hu;cases hu
 have hadd:(⟨b,off,none⟩:Addr).add j=⟨b,off+j,none⟩:=by unfold Addr.add;split<;>simp_all
 rw[List.getElem?_map,List.getElem?_eq_getElem hj]at hu;rw[hadd,hcc j hj];exact hu
def One(w:World)(b:Nat)(t:TypeId)(v:Value):Prop:=w.heap[b]? =some (.cells #[v] t (0,0))
section
variable {w w':World}{b:Nat}{t:TypeId}{v:Value}
theorem One.lt(h:One w b t v):b<w.heap.size:=by
 rcases Nat.lt_or_ge b w.heap.size with hlt|hge
 ·exact hlt
 ·unfold One at h;rw[Array.getElem?_eq_none hge]at h;cases h
theorem One.cell(h:One w b t v):w.cell? ⟨b,0,none⟩=some v:=by
 rw[cell_of_row w b 0 _ t (0,0) h];rfl
theorem One.frozen(h:One w b t v):w.frozen? ⟨b,0,none⟩=false:=by
 unfold One at h;simp[World.frozen?,h]
theorem One.below{B:Nat}(h:One w b t v)(hb:Below B w w')(hg:b<B):One w' b t v:=(hb.block b hg).trans h
theorem One.set(h:One w b t v)(u:Value):One (w.setCell ⟨b,0,none⟩ u) b t u:=by
 unfold One at h ⊢;simp[World.setCell,Array.getElem?_modify,h]
theorem One.far(h:One w b t v){p:Addr}(hp:b≠p.block)(u:Value):One (w.setCell p u) b t v:=(Below.heap_setCell w p u b hp).trans h
theorem One.drewN(h:One w b t v)(n:Nat):One (w.drewN n) b t v:=h
theorem One.drew(h:One w b t v):One w.drew b t v:=h
theorem One.new(w:World)(t:TypeId)(v:Value):One (w.alloc (.cells #[v] t)) w.heap.size t v:=heap_alloc_new w _
theorem One.alloc(h:One w b t v)(o:Obj):One (w.alloc o) b t v:=(Below.heap_alloc w o b h.lt).trans h
end
structure qAg(S:Nat->Prop)(w w':World):Prop where
 os:w'.os=w.os
 tape:w'.tape=w.tape
 output:w'.output=w.output
 size:w.heap.size<=w'.heap.size
 block:∀k,k<w.heap.size->¬S k->w'.heap[k]? =w.heap[k]?
section
variable {S S':Nat->Prop}{w w' w'':World}
theorem qAg.refl(S:Nat->Prop)(w:World):qAg S w w:=⟨rfl,rfl,rfl,Nat.le_refl _,fun _ _ _=>rfl⟩
theorem qAg.trans(h:qAg S w w')(h':qAg S w' w''):qAg S w w'':=
 ⟨h'.os.trans h.os,h'.tape.trans h.tape,h'.output.trans h.output,Nat.le_trans h.size h'.size,fun k hk hS=>(h'.block k (Nat.lt_of_lt_of_le hk h.size) hS).trans (h.block k hk hS)⟩
theorem qAg.mono(h:qAg S w w')(hS:∀k,S k->S' k):qAg S' w w':=⟨h.os,h.tape,h.output,h.size,fun k hk hn=>h.block k hk (fun hs=>hn (hS k hs))⟩
theorem qAg.set(h:qAg S w w'){p:Addr}(hp:S p.block)(u:Value):qAg S w (w'.setCell p u):=
 ⟨h.os,h.tape,h.output,by rw[show(w'.setCell p u).heap.size=w'.heap.size by simp[World.setCell]];exact h.size,fun k hk hn=>(Below.heap_setCell w' p u k (fun e=>hn (e▸hp))).trans (h.block k hk hn)⟩
theorem qAg.drew(h:qAg S w w'):qAg S w w'.drew:=⟨h.os,h.tape,h.output,h.size,h.block⟩
theorem qAg.drewN(h:qAg S w w')(n:Nat):qAg S w (w'.drewN n):=⟨h.os,h.tape,h.output,h.size,h.block⟩
theorem qAg.of_below(h:Below w.heap.size w w'):qAg S w w':=⟨h.os,h.tape,h.output,h.size,fun k hk _=>h.block k hk⟩
theorem qAg.below{B:Nat}{w0:World}(h:qAg S w w')(hb:Below B w0 w)(hB:B<=w.heap.size)(hS:∀k,S k->B<=k):Below B w0 w':=
 ⟨h.os.trans hb.os,h.tape.trans hb.tape,h.output.trans hb.output,Nat.le_trans hb.size h.size,fun k hk=>(h.block k (by omega) (fun hs=>by have:=hS k hs;omega)).trans (hb.block k hk)⟩
theorem qAg.cell(h:qAg S w w'){p:Addr}(hp:¬S p.block)(hl:p.block<w.heap.size):w'.cell? p=w.cell? p:=World.cell?_of_block (w:=w) (h.block _ hl hp)
theorem qAg.row(h:qAg S w w'){k:IntKind}{v:Value}{L:List Nat}(hr:qDa k w v L)(hS:∀b off cap,v=.slice (some ⟨b,off,none⟩) L.length cap->¬S b):qDa k w' v L:=by
 obtain⟨a,cap,hv,h1,h2,hc⟩:=hr;refine⟨a,cap,hv,h1,h2,fun h0=> ?_⟩;obtain⟨b,off,ha,hlt,hcc⟩:=hc h0;exact⟨b,off,ha,Nat.lt_of_lt_of_le hlt h.size,fun j hj=>(h.cell (p:=⟨b,off+j,none⟩) (hS b off cap (by rw[hv,ha])) hlt).trans (hcc j hj)⟩
theorem qAg.one(h:qAg S w w'){g:Nat}{t:TypeId}{v:Value}(hb:One w g t v)(hS:¬S g):One w' g t v:=(h.block g hb.lt hS).trans hb
end
theorem aR{w:World}{o:Obj}:Below w.heap.size w (w.alloc o):=(Below.refl _ _).alloc (Nat.le_refl _) _
theorem hZ{p:Prop}(h:p):Go.RowKit.Hid p:=Go.Lib.hid h
theorem _root_.Go.RowKit.Hid.o{p:Prop}(h:Go.RowKit.Hid p):p:=h
theorem aB{w w':World}{o:Obj}(h:w.alloc o=w'):Below w.heap.size w w':=by subst h;exact(Below.refl _ _).alloc (Nat.le_refl _) _
theorem dB{w w':World}(h:w.drew=w'):Below w.heap.size w w':=by subst h;exact(Below.refl _ _).drew
theorem bT{w0 w w':World}(h:Hid (Below w0.heap.size w0 w))(hB:Below w.heap.size w w'):Hid (Below w0.heap.size w0 w'):=hZ (h.out.trans (hB.mono h.out.size))
theorem oT{S:Nat->Prop}{w0 w w':World}(h:Hid (qAg S w0 w))(hB:Below w.heap.size w w'):Hid (qAg S w0 w'):=hZ (h.out.trans (qAg.of_below hB))
class Mv(w w':World)(p:Prop)(q:outParam Prop):Prop where
  mv:Below w.heap.size w w'->p->q
theorem _root_.Go.RowKit.Hid.b{w w':World}{p q:Prop}[i:Mv w w' p q](h:Go.RowKit.Hid p)(hB:Below w.heap.size w w'):Go.RowKit.Hid q:=hZ (i.mv hB h.out)
theorem eX{α:Sort _}(a:α):∃x,a=x:=⟨_,rfl⟩
theorem eY{α:Sort _}(a:α):∃x,x=a:=⟨_,rfl⟩
theorem cF{w:World}{b o:Nat}{v:Value}(e:w.cell? ⟨b,o,none⟩=some v)(l:b<w.heap.size):∀w',qAg (fun _=>False) w w'->w'.cell? ⟨b,o,none⟩=some v:=fun _ h=>(h.cell (p:=⟨b,o,none⟩) (fun h=>h) l).trans e
theorem cT{S:Nat->Prop}{w:World}{b o:Nat}{v:Value}(n:¬S b)(e:w.cell? ⟨b,o,none⟩=some v)(l:b<w.heap.size):∀w',qAg S w w'->w'.cell? ⟨b,o,none⟩=some v:=fun _ h=>(h.cell (p:=⟨b,o,none⟩) n l).trans e
def sv(t:Tx):Value:=.string ⟨t.toArray⟩
theorem qJ3(a b:Tx):(⟨a.toArray⟩:ByteArray)++⟨b.toArray⟩=⟨(a++b).toArray⟩:=by
 apply ByteArray.ext;rw[ByteArray.data_append];simp
def qBp(n m:Int):Int:=if n<0 then (-(n+1))%m else n%m
theorem qDF(n m:Int)(hm:1<=m):0<=qBp n m/\qBp n m<m:=by
 unfold qBp
 split
 ·exact⟨Int.emod_nonneg _ (by omega),Int.emod_lt_of_pos _ (by omega)⟩
 ·exact⟨Int.emod_nonneg _ (by omega),Int.emod_lt_of_pos _ (by omega)⟩
theorem qIR(n m:Int)(hn:n<0)(_hm:1<=m):(-(n+1)).tmod m=qBp n m:=by
 unfold qBp;rw[if_pos hn,Int.tmod_eq_emod_of_nonneg (by omega)]
theorem qBY{k:IntKind}{a b:Int}(h:a=b):Ending.returned (.int k a)=.returned (.int k b):=by rw[h]
theorem qET(n m:Int)(w:World)(hn: -9223372036854775808<=n)(hn':n<=9223372036854775807)(hm:1<=m)(hm':m<=9223372036854775807):
 Calls Tryd.prog 14 #[.int .i64 n,.int .i64 m] w fun e w'=>e=.returned (.int .i64 (qBp n m))/\w=w':=by
 by_cases h:n<0
 ·have h2:=hZ (qIR n m h hm)
  go_enter Tryd.func14,Tryd.ntmps14
  go_wp2
  go_ret;exact⟨qBY (by rw[<-h2.o,Int.neg_tmod]),rfl⟩
 ·go_enter Tryd.func14,Tryd.ntmps14
  go_wp2
  go_ret;exact⟨qBY (by rw[qBp,if_neg (by omega)]),rfl⟩
def qA3(w:World)(v:Value)(zs:List Int)(len:Nat):Prop:=
 (∃a cap,v=.slice a 0 cap/\len=0/\cap<=9223372036854775807)\/ ∃b off cap,v=.slice (some ⟨b,off,none⟩) len cap/\b<w.heap.size/\len<=cap/\cap<=9223372036854775807/\(∀j,j<len->w.cell? ⟨b,off+j,none⟩=some (.int .i64 (zs[j]?.getD 0)))/\(∀j,j<len-> -9223372036854775808<=zs[j]?.getD 0/\zs[j]?.getD 0<=9223372036854775807)
theorem qA3.below{w w':World}{v:Value}{zs:List Int}{len:Nat}(h:qA3 w v zs len){B:Nat}(hB:w.heap.size<=B)(hb:Below B w w'):qA3 w' v zs len:=by
 rcases h with h|⟨b,off,cap,hv,hlt,h1,h2,hc,hr⟩
 ·exact .inl h
 ·exact .inr ⟨b,off,cap,hv,Nat.lt_of_lt_of_le hlt hb.size,h1,h2,fun j hj=>(hb.cell (p:=⟨b,off+j,none⟩) (Nat.lt_of_lt_of_le hlt hB)).trans (hc j hj),hr⟩
def qCd(zs:List Int)(len i:Nat)(m:Int):Int:=if i<len then qBp (zs[i]?.getD 0) m else 0
theorem qD5(zs:List Int)(len i:Nat)(m:Int)(hm:0<m):0<=qCd zs len i m/\qCd zs len i m<m:=by
 unfold qCd;by_cases h:i<len
 ·rw[if_pos h];exact qDF _ _ hm
 ·rw[if_neg h];omega
theorem qGM(v:Value)(zs:List Int)(len i:Nat)(m:Int)(w:World)(h:qA3 w v zs len)(hi:i<=4611686018427387904)(hm0:0<m)(hm1:m<=4611686018427387904):
 Calls Tryd.prog 23 #[v,.int .i64 i,.int .i64 m] w fun e w'=>e=.returned (.int .i64 (qCd zs len i m))/\w'=w:=by
 rcases h with ⟨a,cap,rfl,rfl,hcap⟩|⟨b,off,cap,rfl,hlt,h1,h2,hc,hr⟩
 ·have hp:Hid (qCd zs 0 i m=0):=hZ (by unfold qCd;rw[if_neg (by omega)])
  go_enter Tryd.func23,Tryd.ntmps23
  go_wp2
  go_ret;exact⟨by rw[hp.o];rfl,rfl⟩
 ·by_cases hil:i<len
  ·have hp:Hid (qCd zs len i m=qBp (zs[i]?.getD 0) m):=hZ (by unfold qCd;rw[if_pos hil])
   have hcell:=hc i hil;have hri:=hr i hil;clear hc hr;generalize zs[i]?.getD 0=z at *
   go_enter Tryd.func23,Tryd.ntmps23
   go_wp2_with (go_at_call 14;refine(qET z m w hri.1 hri.2 (by omega) (by omega)).mono ?_;rintro e w' ⟨rfl,rfl⟩)
   go_ret;exact⟨by rw[hp.o];rfl,rfl⟩
  ·have hp:Hid (qCd zs len i m=0):=hZ (by unfold qCd;rw[if_neg hil])
   clear hc hr
   go_enter Tryd.func23,Tryd.ntmps23
   go_wp2
   go_ret;exact⟨by rw[hp.o];rfl,rfl⟩
theorem qKp(d:Nat)(h:d<10):(⟨#[48,49,50,51,52,53,54,55,56,57]⟩:ByteArray).extract d (d+1)=⟨[dch d].toArray⟩:=by
 match d,h with
 |0,_=>rfl
 |1,_=>rfl
 |2,_=>rfl
 |3,_=>rfl
 |4,_=>rfl
 |5,_=>rfl
 |6,_=>rfl
 |7,_=>rfl
 |8,_=>rfl
 |9,_=>rfl
 |d+10,h=>omega
def ldV:Value->Nat
 |.int _ i=>i.natAbs
 |_=>0
theorem qKU:(⟨#[45]⟩:ByteArray)=⟨([45]:Tx).toArray⟩:=rfl
theorem qGz(n:Nat)(w:World)(h0:0<n)(h:n<=9223372036854775807):
 Calls Tryd.prog 84 #[.int .i64 (n:Int)] w fun e w'=>e=.returned (sv (dec n))/\w'=w:=by
 have hne:((n:Int)==0)=false:=by simp;omega
 have hnn:¬((n:Int)<0):=by omega
 have Hdec:Hid (dec n=qGB n):=hZ (by unfold dec;rw[if_neg (by omega)]);have Hlen:=hZ (qE8 19 n (by omega)).2
 go_enter Tryd.func84,Tryd.ntmps84
 go_wp2_with fail
 go_loop [4,5] (fun sv5 kv=>∃(t:Tx) (r:Nat),r<=n/\kv=.int .i64 ((r:Int))/\sv5=.string ⟨t.toArray⟩/\Hid (qGB r++t=qGB n)) (fun _ kv=>ldV kv)
 case atStart=>exact⟨[],n,Nat.le_refl _,rfl,rfl,hZ (by simp)⟩
 case round=>
  obtain⟨t,r,hr,rfl,rfl,ht⟩:=hrel;have htl:t.length<=19:=by
   have h5:=congrArg List.length ht.o;rw[List.length_append]at h5;have:=Hlen.o;omega
  by_cases h1:r=0
  ·subst h1
   go_wp2
   go_ret;refine⟨?_,rfl⟩;rw[Hdec.o,<-ht.o]
   first|rfl|(rw[qKU,qJ3];rfl)
  ·have Hst:=hZ (qCx r h1)
   obtain⟨k,hk⟩:=eX (r%10);obtain⟨q,hq⟩:=eX (r/10);have hk10:k<10:=by omega
   have hqr:q<r:=by omega
   have hrn:(((r:Int))==0)=false:=by simp;omega
   have hkI:(r:Int)%10=(k:Int):=by omega
   have hqI:(r:Int)/10=(q:Int):=by omega
   rw[hk,hq]at Hst;have Hsub:=hZ (qKp k hk10);have hk11:¬((k:Int)<0):=by omega
   clear hk hq h1
   go_wp2_with fail
   go_round
   case rel=>
    refine⟨[dch k]++t,q,by omega,rfl,?_,hZ (by rw[<-ht.o,Hst.o,List.append_assoc])⟩;rw[Hsub.o,qJ3]
   case measure=>simp[ldV];omega
theorem qFY(w:World):Calls Tryd.prog 84 #[.int .i64 0] w fun e w'=>e=.returned (sv (dec 0))/\w'=w:=by
 go_enter Tryd.func84,Tryd.ntmps84
 go_wp2
 go_ret;exact⟨rfl,rfl⟩
theorem qGA(n:Nat)(w:World)(h:n<=9223372036854775807):
 Calls Tryd.prog 84 #[.int .i64 (n:Int)] w fun e w'=>e=.returned (sv (dec n))/\w'=w:=by
 rcases Nat.eq_zero_or_pos n with h0|h0
 ·subst h0;exact qFY w
 ·exact qGz n w h0 h
theorem qAC(s:ByteArray)(k:Nat)(h:k<s.size):s.data.toList.drop k=s[k]::s.data.toList.drop (k+1):=by
 rw[List.drop_eq_getElem_cons (by simpa using h)];rfl
theorem qC7(s:ByteArray)(k:Nat)(h:s.size<=k):s.data.toList.drop k=[]:=by
 rw[List.drop_eq_nil_iff];simpa using h
def qEs(s:ByteArray)(cm:Bool)(k:Nat):Nat:=s.size-(sk cm (s.data.toList.drop k)).length
theorem qHT(s:ByteArray)(cm:Bool)(k:Nat):qEs s cm k<=s.size:=by unfold qEs;omega
theorem qDX(s:ByteArray)(cm:Bool)(k:Nat)(h:k<=s.size)(hh:sk cm (s.data.toList.drop k)=s.data.toList.drop k):qEs s cm k=k:=by
 unfold qEs;rw[hh,List.length_drop];have:s.data.toList.length=s.size:=by simp
 omega
theorem qCU(s:ByteArray)(cm:Bool)(k:Nat):s.data.toList.drop (qEs s cm k)=sk cm (s.data.toList.drop k):=by
 have hl:s.data.toList.length=s.size:=by simp
 obtain⟨p,hp⟩:=qCh cm (s.data.toList.drop k);have h2:sk cm (s.data.toList.drop k) <:+s.data.toList:=(qCh _ _).trans (List.drop_suffix _ _);obtain⟨q,hq⟩:=h2;have h3:qEs s cm k=q.length:=by
  unfold qEs;have:=congrArg List.length hq;simp only[List.length_append]at this;omega
 rw[h3]
 conv=>lhs;arg 2;rw[<-hq]
 simp
def run(p:UInt8->Bool)(s:ByteArray)(k:Nat):Nat:=k+((s.data.toList.drop k).takeWhile p).length
theorem qHZ(p:UInt8->Bool)(s:ByteArray)(k:Nat)(h:k<=s.size):run p s k<=s.size:=by
 unfold run;have h1:=(List.takeWhile_sublist p (l:=s.data.toList.drop k)).length_le;have hl:s.data.toList.length=s.size:=by simp
 rw[List.length_drop]at h1;omega
theorem qKE(p:UInt8->Bool)(s:ByteArray)(k:Nat):k<=run p s k:=by unfold run;omega
theorem qCW(p:UInt8->Bool)(s:ByteArray)(k:Nat)(h:k<s.size)(hp:p s[k]=true):run p s k=run p s (k+1):=by
 unfold run;rw[qAC s k h,List.takeWhile_cons,if_pos hp,List.length_cons];omega
theorem qDO(p:UInt8->Bool)(s:ByteArray)(k:Nat)(h:k<s.size)(hp:p s[k]=false):run p s k=k:=by
 unfold run;rw[qAC s k h,List.takeWhile_cons,if_neg (by simp[hp])];simp
theorem qH0(p:UInt8->Bool)(s:ByteArray)(k:Nat)(h:s.size<=k):run p s k=k:=by
 unfold run;rw[qC7 s k h];simp
def qAH(s:ByteArray)(k:Nat):Nat:=k+tl (s.data.toList.drop k)
theorem qHG(s:ByteArray)(k:Nat)(h:k<s.size)(h1:cl s[k]=1):qAH s k=run wb s (k+1):=by
 unfold qAH run;rw[qAC s k h,tl,if_pos h1];omega
theorem qFU(s:ByteArray)(k:Nat)(h:k<s.size)(h1:cl s[k]=2):qAH s k=run db s (k+1):=by
 unfold qAH run;rw[qAC s k h,tl,if_neg (by omega),if_pos h1];omega
theorem qDD(s:ByteArray)(k:Nat)(h:k<s.size)(h1:cl s[k]=4):qAH s k=k+1:=by
 unfold qAH;rw[qAC s k h,tl,if_neg (by omega),if_neg (by omega),if_pos h1]
theorem qGt(s:ByteArray)(k:Nat)(h:k<s.size)(h1:cl s[k]≠1)(h2:cl s[k]≠2)(h4:cl s[k]≠4)(h6:cl s[k]≠6):qAH s k=k:=by
 unfold qAH;rw[qAC s k h,tl,if_neg h1,if_neg h2,if_neg h4,if_neg h6];omega
theorem qGv(s:ByteArray)(k:Nat)(h:k+1<s.size)(h1:cl s[k]=6)(h2:s[k+1].toNat=62):qAH s k=k+2:=by
 unfold qAH;rw[qAC s k (by omega),qAC s (k+1) h,tl,if_neg (by omega),if_neg (by omega),if_neg (by omega),if_pos h1,if_pos];simp[<-UInt8.toNat_inj,h2]
theorem qGu(s:ByteArray)(k:Nat)(h:k+1<s.size)(h1:cl s[k]=6)(h2:¬s[k+1].toNat=62):qAH s k=k:=by
 unfold qAH;rw[qAC s k (by omega),qAC s (k+1) h,tl,if_neg (by omega),if_neg (by omega),if_neg (by omega),if_pos h1,if_neg]
 ·omega
 ·simp[<-UInt8.toNat_inj,h2]
theorem qEl(s:ByteArray)(k:Nat)(h0:k<s.size)(h:s.size<=k+1)(h1:cl s[k]=6):qAH s k=k:=by
 unfold qAH;rw[qAC s k h0,qC7 s (k+1) h,tl,if_neg (by omega),if_neg (by omega),if_neg (by omega),if_pos h1,if_neg (by simp)];omega
end Go.Proofs.YtpmnbcdjoomgcaaDoor
