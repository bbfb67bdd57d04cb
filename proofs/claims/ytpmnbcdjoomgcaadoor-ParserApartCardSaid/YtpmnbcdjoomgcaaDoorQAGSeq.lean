/- gain.sequences: the iterator, for every round that keeps its word. -/
import Derived.Test.YtpmnbcdjoomgcaaDoorQARefWalks
import Derived.Test.YtpmnbcdjoomgcaaDoorQAGApp
import Derived.Maps.OwnSet
import Derived.Maps.Views
import Derived.WalkArith
import Derived.Laws.EntriesVeiled
import Derived.Deep.RegionHeld3
import Derived.RegionTactic
import Derived.ChangeAlike
import Derived.Laws.MakeOwn
import Derived.OrdersIn
set_option linter.unusedVariables false
set_option linter.unusedSimpArgs false
namespace Go.Proofs.YtpmnbcdjoomgcaaDoor

def qHX(t:Tok):Bool:=t.is 2 [59]
def qAT(l:List Tok):Prop:=∀u∈l,qHX u=false
theorem qAT.nil:qAT []:=nofun
theorem qAT.app{a b:List Tok}(h:qAT a)(h':qAT b):qAT (a++b):=fun u hu=>(List.mem_append.1 hu).elim (h u) (h' u)
theorem qAT.one{t:Tok}(h:qHX t=false):qAT [t]:=fun u hu=>by rw[List.mem_singleton.1 hu];exact h
def qAd{α:Type}(p:List Tok->Rd α)(l:List Tok):Prop:=
 match p l with
 |.ok (x,r)=>∃pre,l=pre++r/\qAT pre/\∀t r1,r=t::r1->∀r',p (pre++t::r')=.ok (x,t::r')
 |.error z=>∃pre,l=pre++z/\qAT pre
theorem qAd.ok{α:Type}{p:List Tok->Rd α}{l r:List Tok}{x:α}(h:qAd p l)(he:p l=.ok (x,r)):∃pre,l=pre++r/\qAT pre/\∀t r1,r=t::r1->∀r',p (pre++t::r')=.ok (x,t::r'):=by
 unfold qAd at h;rw[he]at h;exact h
theorem qAd.err{α:Type}{p:List Tok->Rd α}{l z:List Tok}(h:qAd p l)(he:p l=.error z):∃pre,l=pre++z/\qAT pre:=by
 unfold qAd at h;rw[he]at h;exact h
def bnd{α β:Type}(p:List Tok->Rd α)(f:α->List Tok->Rd β)(l:List Tok):Rd β:=match p l with|.error z=> .error z|.ok (x,r)=>f x r
def qFx{α:Type}(x:α)(l:List Tok):Rd α:=.ok (x,l)
def qIY{α:Type}(k:Int)(s:Bs)(p q:List Tok->Rd α)(l:List Tok):Rd α:=if isT k s l then p l else q l
theorem qAd.ret{α:Type}(x:α)(l:List Tok):qAd (qFx x) l:=⟨[],rfl,qAT.nil,fun _ _ _ _=>rfl⟩
theorem qGW{a b:List Tok}{t:Tok}{r1:List Tok}(h:b=t::r1)(r':List Tok):∃u c,a++b=u::c/\∃c',a++t::r'=u::c':=by
 cases a with
 |nil=>exact⟨t,r1,by rw[h];rfl,r',rfl⟩
 |cons u a=>exact⟨u,a++b,rfl,a++t::r',rfl⟩
theorem qAd.bnd{α β:Type}{p:List Tok->Rd α}{f:α->List Tok->Rd β}{l:List Tok}(h:qAd p l)(hf:∀x r,p l=.ok (x,r)->qAd (f x) r):qAd (bnd p f) l:=by
 unfold qAd Go.Proofs.YtpmnbcdjoomgcaaDoor.bnd;cases hp:p l with
 |error z=>exact h.err hp
 |ok a=>
  obtain⟨x,r⟩:=a;obtain⟨pre,h1,h2,h3⟩:=h.ok hp;have hg:=hf x r hp;simp only[];cases hq:f x r with
  |error z=>
   obtain⟨pre2,h4,h5⟩:=hg.err hq;exact⟨pre++pre2,by rw[h1,h4,List.append_assoc],h2.app h5⟩
  |ok b=>
   obtain⟨y,r2⟩:=b;obtain⟨pre2,h4,h5,h6⟩:=hg.ok hq;refine⟨pre++pre2,by rw[h1,h4,List.append_assoc],h2.app h5,fun t r1 hr r'=> ?_⟩;obtain⟨u,c,e1,c',e2⟩:=qGW (a:=pre2) hr r';rw[List.append_assoc,e2,h3 u c (by rw[h4,e1]) c'];simp only[];rw[<-e2];exact h6 t r1 hr r'
theorem qAd.iff{α:Type}{k:Int}{s:Bs}{p q:List Tok->Rd α}{l:List Tok}(hp:isT k s l=true->qAd p l)(hq:isT k s l=false->qAd q l):qAd (qIY k s p q) l:=by
 have key:∀(f:List Tok->Rd α) (b:Bool),isT k s l=b->(∀m,isT k s m=b->qIY k s p q m=f m)->qAd f l->qAd (qIY k s p q) l:=by
  intro f b hb he hf;unfold qAd;rw[he l hb];cases hl:f l with
  |error z=>exact hf.err hl
  |ok a=>
   obtain⟨x,r⟩:=a;obtain⟨pre,h1,h2,h3⟩:=hf.ok hl;refine⟨pre,h1,h2,fun t r1 hr r'=> ?_⟩;obtain⟨u,c,e1,c',e2⟩:=qGW (a:=pre) hr r';rw[he]
   ·exact h3 t r1 hr r'
   ·rw[e2]
    rw[h1,e1]at hb;exact hb
 cases hb:isT k s l with
 |true=>exact key p true hb (fun m hm=>by unfold qIY;rw[hm];rfl) (hp hb)
 |false=>exact key q false hb (fun m hm=>by unfold qIY;rw[hm];rfl) (hq hb)
theorem qAd.congr{α:Type}{p q:List Tok->Rd α}(h:∀l,p l=q l){l:List Tok}(hq:qAd q l):qAd p l:=by
 have:p=q:=funext h;rw[this];exact hq
theorem qCi(k:Int)(s:Bs)(hs:∀t:Tok,t.is k s=true->qHX t=false)(l:List Tok):qAd (qAR k s) l:=by
 unfold qAd;cases l with
 |nil=>exact⟨[],rfl,qAT.nil⟩
 |cons t r=>
  rw[qAR];by_cases h:t.is k s=true
  ·rw[if_pos h]
   refine⟨[t],rfl,qAT.one (hs t h),fun u r1 _ r'=> ?_⟩
   show qAR k s (t::(u::r'))=_
   rw[qAR,if_pos h]
  ·rw[if_neg h]
   exact⟨[],rfl,qAT.nil⟩
theorem qA1{t:Tok}{k:Int}{s:Bs}(hk:k≠2)(h:t.is k s=true):qHX t=false:=by
 unfold Tok.is at h;unfold qHX Tok.is;simp only[Bool.and_eq_true,beq_iff_eq]at h;have:(t.kind==2)=false:=by rw[beq_eq_false_iff_ne,h.1];exact hk
 rw[this];rfl
theorem qCV{t:Tok}{c:UInt8}(hc:c≠59)(h:t.is 2 [c]=true):qHX t=false:=by
 unfold Tok.is at h;unfold qHX Tok.is;simp at h ⊢;intro _ e;rw[e]at h;simp at h;exact hc h.2.symm
theorem qDo(l:List Tok):qAd qBg l:=by
 refine qAd.congr (q:=bnd (qAR 1 []) (fun t=>qFx t.n)) (fun l=> ?_) (qAd.bnd (qCi _ _ (fun t h=>qA1 (by decide) h) l) (fun x r _=>qAd.ret _ _));unfold qBg bnd;cases qAR 1 [] l<;>rfl
theorem qKs{α:Type}(k:Int)(s:Bs)(f:List Tok->Rd α)(l:List Tok)(h:isT k s l=true):bnd (qAR k s) (fun _=>f) l=f (l.drop 1):=by
 unfold bnd;rw[qGi,if_pos h];cases l with
 |nil=>cases h
 |cons t r=>rfl
def qJU{α:Type}(k:Int)(s:Bs)(f:List Tok->Rd α)(q:List Tok->Rd α):List Tok->Rd α:=qIY k s (bnd (qAR k s) (fun _=>f)) q
theorem qCJ{α:Type}(k:Int)(s:Bs)(f q:List Tok->Rd α)(l:List Tok):qJU k s f q l=if isT k s l then f (l.drop 1)else q l:=by
 unfold qJU qIY
 split
 ·next h=>exact qKs k s f l h
 ·rfl
theorem qCk{k:Int}{s:Bs}{l:List Tok}(h:isT k s l=true):(l.drop 1).length<l.length:=by
 cases l with
 |nil=>cases h
 |cons t r=>simp
theorem qAd.opt{α:Type}{k:Int}{s:Bs}{f q:List Tok->Rd α}{l:List Tok}(hs:∀t:Tok,t.is k s=true->qHX t=false)(hf:isT k s l=true->qAd f (l.drop 1))(hq:isT k s l=false->qAd q l):qAd (qJU k s f q) l:=by
 refine qAd.iff (fun h=>qAd.bnd (qCi _ _ hs l) (fun x r hr=> ?_)) hq;rw[qGi,if_pos h]at hr;cases l with
 |nil=>cases h
 |cons t r0=>cases hr;exact hf h
theorem qBT{l r:List Tok}{n:Int}(h:qBg l=.ok (n,r)):r.length<l.length:=by
 unfold qBg at h;cases h1:qAR 1 [] l with
 |error z=>rw[h1]at h;cases h
 |ok a=>rw[h1]at h;cases h;have:=qAu (t:=a.1) (r:=a.2) h1;omega
theorem qFF(l:List Tok):qAE l=bnd qBg (fun n=>bnd (qAR 0 []) (fun b=>qJU 2 [44] (bnd qAE (fun x=>qFx (⟨n,b.text,b.at_⟩::x))) (qFx [⟨n,b.text,b.at_⟩]))) l:=by
 unfold bnd;simp only[qCJ];cases l with
 |nil=>rfl
 |cons a l=>
  rw[qAE.eq_def];unfold qBg qAR;by_cases ha:a.is 1 []=true
  ·simp only[if_pos ha]
   cases l with
   |nil=>rfl
   |cons b l=>
    by_cases hb:b.is 0 []=true
    ·simp only[if_pos hb]
     cases l with
     |nil=>rfl
     |cons c l=>
      by_cases hc:c.is 2 [44]=true
      ·have hc2:isT 2 [44] (c::l)=true:=hc
       simp only[if_pos hc,if_pos hc2,List.drop_succ_cons,List.drop_zero];cases qAE l<;>rfl
      ·have hc2:¬isT 2 [44] (c::l)=true:=hc
       simp only[if_neg hc,if_neg hc2];rfl
    ·simp only[if_neg hb]
  ·simp only[if_neg ha]
theorem qFe:∀(n:Nat) (l:List Tok),l.length<=n->qAd qAE l
 |n,l,hn=>by
  refine qAd.congr qFF (qAd.bnd (qDo l) (fun x r hr=>qAd.bnd (qCi _ _ (fun t h=>qA1 (by decide) h) r) (fun b r2 hr2=>qAd.opt (fun t h=>qCV (by decide) h) (fun h=>qAd.bnd ?_ (fun _ _ _=>qAd.ret _ _)) (fun _=>qAd.ret _ _))));have h1:=qBT hr;have h2:=qAu hr2;have h3:=qCk h
  match n,hn with
  |0,hn=>omega
  |m+1,hn=>exact qFe m _ (by omega)
theorem qGQ(l:List Tok):qDK l=bnd qBg (fun n=>bnd (qAR 2 [58]) (fun _=>bnd qBg (fun m=>qJU 2 [44] (bnd qDK (fun x=>qFx ((n,m)::x))) (qFx [(n,m)])))) l:=by
 unfold bnd;simp only[qCJ];cases l with
 |nil=>rfl
 |cons a l=>
  rw[qDK.eq_def];unfold qBg qAR;by_cases ha:a.is 1 []=true
  ·simp only[if_pos ha]
   cases l with
   |nil=>rfl
   |cons b l=>
    by_cases hb:b.is 2 [58]=true
    ·simp only[if_pos hb]
     cases l with
     |nil=>rfl
     |cons c l=>
      by_cases hc:c.is 1 []=true
      ·simp only[if_pos hc]
       cases l with
       |nil=>rfl
       |cons e l=>
        by_cases he:e.is 2 [44]=true
        ·have he2:isT 2 [44] (e::l)=true:=he
         simp only[if_pos he,if_pos he2,List.drop_succ_cons,List.drop_zero];cases qDK l<;>rfl
        ·have he2:¬isT 2 [44] (e::l)=true:=he
         simp only[if_neg he,if_neg he2];rfl
      ·simp only[if_neg hc]
    ·simp only[if_neg hb]
  ·simp only[if_neg ha]
theorem qIo:∀(n:Nat) (l:List Tok),l.length<=n->qAd qDK l
 |n,l,hn=>by
  refine qAd.congr qGQ (qAd.bnd (qDo l) (fun x r hr=>qAd.bnd (qCi _ _ (fun t h=>qCV (by decide) h) r) (fun b r2 hr2=>qAd.bnd (qDo r2) (fun y r3 hr3=>qAd.opt (fun t h=>qCV (by decide) h) (fun h=>qAd.bnd ?_ (fun _ _ _=>qAd.ret _ _)) (fun _=>qAd.ret _ _)))));have h1:=qBT hr;have h2:=qAu hr2;have h4:=qBT hr3;have h3:=qCk h
  match n,hn with
  |0,hn=>omega
  |m+1,hn=>exact qIo m _ (by omega)
theorem qGN(l:List Tok):qDz l=bnd (qAR 1 []) (fun a=>bnd (qAR 2 [58]) (fun _=>qIY 1 [] (bnd qAE (fun x=>qFx (⟨a.n,[],a.at_⟩::x))) (qFx [⟨a.n,[],a.at_⟩]))) l:=by
 unfold qDz bnd;cases qAR 1 [] l with
 |error z=>rfl
 |ok a=>
  simp only[];cases qAR 2 [58] a.2 with
  |error z=>rfl
  |ok b=>
   simp only[qIY]
   split
   ·cases qAE b.2<;>rfl
   ·rfl
theorem qKh(l:List Tok):qAd qDz l:=
 qAd.congr qGN (qAd.bnd (qCi _ _ (fun t h=>qA1 (by decide) h) l) (fun a r _=>qAd.bnd (qCi _ _ (fun t h=>qCV (by decide) h) r) (fun b r2 _=>qAd.iff (fun _=>qAd.bnd (qFe _ r2 (Nat.le_refl _)) (fun _ _ _=>qAd.ret _ _)) (fun _=>qAd.ret _ _))))
theorem qEG:∀(f g:Nat) (l:List Tok),l.length<f->l.length<g->qBk f l=qBk g l
 |0,_,_,h,_=>by omega
 |_,0,_,_,h=>by omega
 |f+1,g+1,l,h1,h2=>by
  rw[qBk,qBk];cases hr:qDz l with
  |error z=>rfl
  |ok a=>
   have:=qC0 (x:=a.1) (r:=a.2) hr;simp only[]
   split
   ·next ht=>
    have:=qCk ht;rw[qEG f g _ (by omega) (by omega)]
   ·rfl
def qEI(l:List Tok):Rd (List (List Pr)):=qBk (l.length+1) l
theorem qId(l:List Tok):qEI l=bnd qDz (fun x=>qJU 2 [43] (bnd qEI (fun y=>qFx (x::y))) (qFx [x])) l:=by
 unfold qEI;rw[qBk];unfold bnd;cases hr:qDz l with
 |error z=>rfl
 |ok a=>
  have:=qC0 (x:=a.1) (r:=a.2) hr;simp only[qCJ]
  split
  ·next ht=>
   have:=qCk ht;rw[qEG l.length ((List.drop 1 a.2).length+1) _ (by omega) (by omega)];cases qBk ((List.drop 1 a.2).length+1) (List.drop 1 a.2)<;>rfl
  ·rfl
theorem qGT:∀(n:Nat) (l:List Tok),l.length<=n->qAd qEI l
 |n,l,hn=>by
  refine qAd.congr qId (qAd.bnd (qKh l) (fun x r hr=>qAd.opt (fun t h=>qCV (by decide) h) (fun h=>qAd.bnd ?_ (fun _ _ _=>qAd.ret _ _)) (fun _=>qAd.ret _ _)));have h1:=qC0 hr;have h3:=qCk h
  match n,hn with
  |0,hn=>omega
  |m+1,hn=>exact qGT m _ (by omega)
theorem qKi{α:Type}(g:Int->α)(l:List Tok):qAd (bnd qBg (fun n=>qFx (g n))) l:=qAd.bnd (qDo l) (fun _ _ _=>qAd.ret _ _)
theorem qJZ(x:Fg)(d:Dc)(l:List Tok):qAd (pFg x d) l:=by
 have num:∀(g:Int->Dc) (p:List Tok->Rd Dc),(∀l,p l=match qBg l with|.error z=> .error z|.ok (n,r)=> .ok (g n,r))->qAd p l:=fun g p hp=>qAd.congr (fun l=>by rw[hp];unfold bnd;cases qBg l<;>rfl) (qKi g l);have lst:∀(g:List Pr->Dc) (p:List Tok->Rd Dc),(∀l,p l=match qAE l with|.error z=> .error z|.ok (n,r)=> .ok (g n,r))->qAd p l:=fun g p hp=>qAd.congr (q:=bnd qAE (fun n=>qFx (g n))) (fun l=>by rw[hp];unfold bnd;cases qAE l<;>rfl) (qAd.bnd (qFe _ l (Nat.le_refl _)) (fun _ _ _=>qAd.ret _ _));cases x with
 |object=>exact qAd.ret _ _
 |mixed=>exact qAd.ret _ _
 |coin=>exact qAd.ret _ _
 |wear=>exact num (fun n=>{ d with wear:=n }) _ (fun l=>rfl)
 |level=>exact num (fun n=>{ d with level:=n }) _ (fun l=>rfl)
 |time=>exact num (fun n=>{ d with time:=n }) _ (fun l=>rfl)
 |take=>exact lst (fun n=>{ d with take:=n }) _ (fun l=>rfl)
 |give=>exact lst (fun n=>{ d with give:=n }) _ (fun l=>rfl)
 |back=>exact lst (fun n=>{ d with back:=n }) _ (fun l=>rfl)
 |bind=>
  refine qAd.congr (q:=qJU 0 qG9 (qFx { d with bind:=2 }) (qJU 0 qHO (qFx { d with bind:=1 }) (fun l=> .error l))) (fun l=> ?_) (qAd.opt (fun t h=>qA1 (by decide) h) (fun _=>qAd.ret _ _) (fun _=>qAd.opt (fun t h=>qA1 (by decide) h) (fun _=>qAd.ret _ _) (fun _=>⟨[],rfl,qAT.nil⟩)));rw[qCJ,qCJ];rfl
 |chance=>
  refine qAd.congr (q:=bnd qBg (fun n=>bnd (qAR 0 wOf) (fun _=>bnd qBg (fun m=>qFx { d with chance:=n,of_:=m })))) (fun l=> ?_) (qAd.bnd (qDo l) (fun n r _=>qAd.bnd (qCi _ _ (fun t h=>qA1 (by decide) h) r) (fun b r2 _=>qAd.bnd (qDo r2) (fun _ _ _=>qAd.ret _ _))));unfold pFg bnd;cases qBg l with
  |error z=>rfl
  |ok a=>
   simp only[];cases qAR 0 wOf a.2 with
   |error z=>rfl
   |ok b=>
    simp only[];cases qBg b.2<;>rfl
theorem qC2{x:Fg}{d d':Dc}{l r:List Tok}(h:pFg x d l=.ok (d',r)):r.length<=l.length:=by
 obtain⟨pre,h1, -,-⟩:=(qJZ x d l).ok h;rw[h1];simp
theorem qEJ(known:List Fg):∀(f g:Nat) (seen:List Fg) (d:Dc) (l:List Tok),l.length<f->l.length<g->qAX known f seen d l=qAX known g seen d l
 |0,_,_,_,_,h,_=>by omega
 |_,0,_,_,_,_,h=>by omega
 |f+1,g+1,seen,d,l,h1,h2=>by
  cases l with
  |nil=>rfl
  |cons t r=>
   rw[qAX,qAX]
   split
   ·cases List.find? (fun x=>t.text==x.word) known with
    |none=>rfl
    |some x=>
     simp only[]
     split
     ·rfl
     ·cases hp:pFg x d r with
      |error z=>rfl
      |ok a=>
       have:=qC2 (d':=a.1) (r:=a.2) hp;simp only[];simp at h1 h2;exact qEJ known f g _ _ _ (by omega) (by omega)
   ·rfl
def qD8(known seen:List Fg)(d:Dc)(l:List Tok):Rd Dc:=qAX known (l.length+1) seen d l
def qIE(known seen:List Fg)(t:Tok):Option Fg:=(known.find? (fun x=>t.text==x.word)).bind (fun x=>if seen.contains x then none else some x)
theorem qDl(known seen:List Fg)(d:Dc)(t:Tok)(r:List Tok):qD8 known seen d (t::r)=
 if t.is 0 []then (match qIE known seen t with|none=> .error (t::r)|some x=>bnd (pFg x d) (fun d'=>qD8 known (x::seen) d') r)else .ok (d,t::r):=by
 unfold qD8 qIE;rw[qAX]
 split
 ·cases List.find? (fun x=>t.text==x.word) known with
  |none=>rfl
  |some x=>
   simp only[Option.bind_some]
   split
   ·rfl
   ·simp only[]
    unfold bnd;cases hp:pFg x d r with
    |error z=>rfl
    |ok a=>
     have:=qC2 (d':=a.1) (r:=a.2) hp;exact qEJ known _ _ _ _ _ (by simp;omega) (by omega)
 ·rfl
theorem qFd(known:List Fg):∀(n:Nat) (seen:List Fg) (d:Dc) (l:List Tok),l.length<=n->qAd (qD8 known seen d) l
 |n,seen,d,[],_=>by
  unfold qAd;rw[show qD8 known seen d []=.ok (d,[])from rfl];exact⟨[],rfl,qAT.nil,fun t r1 h=>by cases h⟩
 |0,_,_,_::_,h=>by simp at h
 |n+1,seen,d,t::r,hn=>by
  unfold qAd;rw[qDl];by_cases h0:t.is 0 []=true
  ·rw[if_pos h0]
   cases hx:qIE known seen t with
   |none=>exact⟨[],rfl,qAT.nil⟩
   |some x=>
    simp only[];have hl:qAd (bnd (pFg x d) (fun d'=>qD8 known (x::seen) d')) r:=qAd.bnd (qJZ x d r) (fun d' r2 hr=>qFd known n _ _ _ (by have:=qC2 hr;simp at hn;omega));cases hb:bnd (pFg x d) (fun d'=>qD8 known (x::seen) d') r with
    |error z=>
     obtain⟨pre,h1,h2⟩:=hl.err hb;exact⟨t::pre,by rw[h1];rfl,(qAT.one (qA1 (by decide) h0)).app h2⟩
    |ok a=>
     obtain⟨y,r2⟩:=a;obtain⟨pre,h1,h2,h3⟩:=hl.ok hb;refine⟨t::pre,by rw[h1];rfl,(qAT.one (qA1 (by decide) h0)).app h2,fun u r1 hu r'=> ?_⟩;rw[List.cons_append,qDl,if_pos h0,hx];exact h3 u r1 hu r'
  ·rw[if_neg h0]
   refine⟨[],rfl,qAT.nil,fun u r1 hu r'=> ?_⟩;cases hu;rw[List.nil_append,qDl,if_neg h0]
theorem qJt(k:Nat)(d:Dc)(l:List Tok):qAd (qA7 k d) l:=by
 by_cases h0:k=0
 ·exact qAd.congr (fun l=>by unfold qA7;rw[if_pos h0];rfl) (qFd qCb _ [] d l (Nat.le_refl _))
 by_cases h2:k<=2
 ·exact qAd.congr (fun l=>by unfold qA7;rw[if_neg h0,if_pos h2];rfl) (qFd qBI _ [] d l (Nat.le_refl _))
 by_cases h3:k=3
 ·refine qAd.congr (q:=bnd qEI (fun x=>qFx { d with rows:=x })) (fun l=> ?_) (qAd.bnd (qGT _ l (Nat.le_refl _)) (fun _ _ _=>qAd.ret _ _))
  unfold qA7;rw[if_neg h0,if_neg h2,if_pos h3];unfold bnd qEI;cases qBk (l.length+1) l<;>rfl
 ·refine qAd.congr (q:=bnd qDK (fun x=>qFx { d with brs:=x })) (fun l=> ?_) (qAd.bnd (qIo _ l (Nat.le_refl _)) (fun _ _ _=>qAd.ret _ _))
  unfold qA7;rw[if_neg h0,if_neg h2,if_neg h3];unfold bnd;cases qDK l<;>rfl
theorem qKl{x:Fg}{d d':Dc}{l r:List Tok}(h:pFg x d l=.ok (d',r)):d'.name=d.name/\d'.at_=d.at_:=by
 have num:∀(g:Int->Dc),(∀n,(g n).name=d.name/\(g n).at_=d.at_)->(match qBg l with|.error z=>(.error z:Rd Dc)|.ok (n,r)=> .ok (g n,r))=.ok (d',r)->d'.name=d.name/\d'.at_=d.at_:=by
  intro g hg h;cases hp:qBg l with
  |error z=>rw[hp]at h;cases h
  |ok a=>rw[hp]at h;cases h;exact hg _
 have lst:∀(g:List Pr->Dc),(∀n,(g n).name=d.name/\(g n).at_=d.at_)->(match qAE l with|.error z=>(.error z:Rd Dc)|.ok (n,r)=> .ok (g n,r))=.ok (d',r)->d'.name=d.name/\d'.at_=d.at_:=by
  intro g hg h;cases hp:qAE l with
  |error z=>rw[hp]at h;cases h
  |ok a=>rw[hp]at h;cases h;exact hg _
 cases x with
 |object=>cases h;exact⟨rfl,rfl⟩
 |mixed=>cases h;exact⟨rfl,rfl⟩
 |coin=>cases h;exact⟨rfl,rfl⟩
 |wear=>exact num (fun n=>{ d with wear:=n }) (fun _=>⟨rfl,rfl⟩) h
 |level=>exact num (fun n=>{ d with level:=n }) (fun _=>⟨rfl,rfl⟩) h
 |time=>exact num (fun n=>{ d with time:=n }) (fun _=>⟨rfl,rfl⟩) h
 |take=>exact lst (fun n=>{ d with take:=n }) (fun _=>⟨rfl,rfl⟩) h
 |give=>exact lst (fun n=>{ d with give:=n }) (fun _=>⟨rfl,rfl⟩) h
 |back=>exact lst (fun n=>{ d with back:=n }) (fun _=>⟨rfl,rfl⟩) h
 |bind=>
  unfold pFg at h;simp only[]at h
  split at h
  ·cases h;exact⟨rfl,rfl⟩
  ·split at h
   ·cases h;exact⟨rfl,rfl⟩
   ·cases h
 |chance=>
  unfold pFg at h;simp only[]at h;cases h1:qBg l with
  |error z=>rw[h1]at h;cases h
  |ok a=>
   rw[h1]at h;simp only[]at h;cases h2:qAR 0 wOf a.2 with
   |error z=>rw[h2]at h;cases h
   |ok b=>
    rw[h2]at h;simp only[]at h;cases h3:qBg b.2 with
    |error z=>rw[h3]at h;cases h
    |ok c=>rw[h3]at h;cases h;exact⟨rfl,rfl⟩
theorem qEb(known:List Fg):∀(f:Nat) (seen:List Fg) (d d':Dc) (l r:List Tok),qAX known f seen d l=.ok (d',r)->d'.name=d.name/\d'.at_=d.at_
 |0,_,_,_,_,_,h=>by cases h
 |f+1,seen,d,d',[],r,h=>by cases h;exact⟨rfl,rfl⟩
 |f+1,seen,d,d',t::l,r,h=>by
  rw[qAX]at h
  split at h
  ·cases hf:List.find? (fun x=>t.text==x.word) known with
   |none=>rw[hf]at h;cases h
   |some x=>
    rw[hf]at h;simp only[]at h
    split at h
    ·cases h
    ·cases hp:pFg x d l with
     |error z=>rw[hp]at h;cases h
     |ok a=>
      rw[hp]at h;have h1:=qEb known f _ _ _ _ _ h;have h2:=qKl (d':=a.1) (r:=a.2) hp;exact⟨h1.1.trans h2.1,h1.2.trans h2.2⟩
  ·cases h;exact⟨rfl,rfl⟩
theorem qIO{k:Nat}{d d':Dc}{l r:List Tok}(h:qA7 k d l=.ok (d',r)):d'.name=d.name/\d'.at_=d.at_:=by
 unfold qA7 at h
 split at h
 ·exact qEb _ _ _ _ _ _ _ h
 ·split at h
  ·exact qEb _ _ _ _ _ _ _ h
  ·split at h
   ·cases hp:qBk (l.length+1) l with
    |error z=>rw[hp]at h;cases h
    |ok a=>rw[hp]at h;cases h;exact⟨rfl,rfl⟩
   ·cases hp:qDK l with
    |error z=>rw[hp]at h;cases h
    |ok a=>rw[hp]at h;cases h;exact⟨rfl,rfl⟩
theorem qHs(t:Tok)(r r':List Tok):qBP (t::r)=qBP (t::r'):=rfl
theorem qHr{t:Tok}{r:List Tok}{k:Nat}(h:qBP (t::r)=some k):t.is 0 (qAo.getD k [])=true:=by
 have:=List.of_findIdx?_eq_some h;unfold qBP at h;have h2:=(List.findIdx?_eq_some_iff_getElem.1 h);obtain⟨hk,h3,-⟩:=h2;rw[List.getD_eq_getElem?_getD,List.getElem?_eq_getElem hk];exact h3
theorem qGP{l r:List Tok}{d:Dc}(h:qBl l=.ok (d,r)):∃pre t,l=pre++t::r/\qAT pre/\qHX t=true/\(∀r',qBl (pre++t::r')=.ok (d,r'))/\∃u∈l,d.name=u.text/\d.at_=u.at_:=by
 unfold qBl at h;cases l with
 |nil=>cases h
 |cons w l=>
  cases hk:qBP (w::l)with
  |none=>rw[hk]at h;cases h
  |some k=>
   rw[hk]at h;simp only[List.drop_one,List.tail_cons]at h;have hw:=qHr hk;have hws:qHX w=false:=qA1 (by decide) hw;have hL:qAd (bnd (qAR 0 []) (fun t=>qA7 k (Dc.zero k t.text t.at_))) l:=qAd.bnd (qCi _ _ (fun t h=>qA1 (by decide) h) l) (fun t r2 _=>qJt k _ r2);cases hb:bnd (qAR 0 []) (fun t=>qA7 k (Dc.zero k t.text t.at_)) l with
   |error z=>
    unfold bnd at hb;cases h1:qAR 0 [] l with
    |error z=>rw[h1]at h;cases h
    |ok a=>
     rw[h1]at h hb;simp only[]at h hb;rw[hb]at h;cases h
   |ok a=>
    obtain⟨d9,r9⟩:=a;obtain⟨pre,e1,e2,e3⟩:=hL.ok hb;have hd:d9=d/\∃t,r9=t::r/\qHX t=true/\∃u∈w::l,d.name=u.text/\d.at_=u.at_:=by
     unfold bnd at hb;cases h1:qAR 0 [] l with
     |error z=>rw[h1]at h;cases h
     |ok a=>
      rw[h1]at h hb;simp only[]at h hb;rw[hb]at h;simp only[]at h;cases h2:qAR 2 [59] r9 with
      |error z=>rw[h2]at h;cases h
      |ok b=>
       rw[h2]at h;cases h;refine⟨rfl,?_⟩;cases r9 with
       |nil=>cases h2
       |cons t r9=>
        rw[qAR]at h2
        split at h2
        ·next ht=>
         cases h2
         refine⟨t,rfl,ht,a.1,?_,?_⟩
         ·cases l with
          |nil=>cases h1
          |cons b l=>
           rw[qAR]at h1
           split at h1
           ·cases h1;simp
           ·cases h1
         ·exact qIO hb
        ·cases h2
    obtain⟨rfl,t,rfl,ht,hu⟩:=hd;refine⟨w::pre,t,by rw[e1];rfl,(qAT.one hws).app e2,ht,fun r'=> ?_,hu⟩;have e4:=e3 t r rfl r';unfold qBl;rw[List.cons_append,qHs w _ l,hk];simp only[List.drop_one,List.tail_cons];unfold bnd at e4;cases h1:qAR 0 [] (pre++t::r')with
    |error z=>rw[h1]at e4;cases e4
    |ok a=>
     rw[h1]at e4;simp only[]at e4;simp only[];rw[e4];simp only[];rw[qAR,if_pos (show t.is 2 [59]=true from ht)]
theorem qFm:∀(n:Nat) (l:List Tok) (x:List Pr) (r:List Tok),l.length<=n->qAE l=.ok (x,r)->x.length<=l.length
 |n,l,x,r,hn,h=>by
  rw[qFF]at h;unfold bnd at h;cases h1:qBg l with
  |error z=>rw[h1]at h;cases h
  |ok a=>
   have l1:=qBT (n:=a.1) (r:=a.2) h1;rw[h1]at h;simp only[]at h;cases h2:qAR 0 [] a.2 with
   |error z=>rw[h2]at h;cases h
   |ok b=>
    have l2:=qAu (t:=b.1) (r:=b.2) h2;rw[h2]at h;simp only[qCJ]at h
    split at h
    ·next ht=>
     have l3:=qCk ht;cases h3:qAE (b.2.drop 1)with
     |error z=>rw[h3]at h;cases h
     |ok c=>
      rw[h3]at h;cases h
      match n,hn with
      |0,hn=>omega
      |m+1,hn=>
       have:=qFm m _ c.1 c.2 (by omega) h3;simp;omega
    ·cases h
     simp;omega
theorem qIM:∀(n:Nat) (l:List Tok) (x:List (Int×Int)) (r:List Tok),l.length<=n->qDK l=.ok (x,r)->x.length<=l.length
 |n,l,x,r,hn,h=>by
  rw[qGQ]at h;unfold bnd at h;cases h1:qBg l with
  |error z=>rw[h1]at h;cases h
  |ok a=>
   have l1:=qBT (n:=a.1) (r:=a.2) h1;rw[h1]at h;simp only[]at h;cases h2:qAR 2 [58] a.2 with
   |error z=>rw[h2]at h;cases h
   |ok b=>
    have l2:=qAu (t:=b.1) (r:=b.2) h2;rw[h2]at h;simp only[]at h;cases h4:qBg b.2 with
    |error z=>rw[h4]at h;cases h
    |ok e=>
     have l4:=qBT (n:=e.1) (r:=e.2) h4;rw[h4]at h;simp only[qCJ]at h
     split at h
     ·next ht=>
      have l3:=qCk ht;cases h3:qDK (e.2.drop 1)with
      |error z=>rw[h3]at h;cases h
      |ok c=>
       rw[h3]at h;cases h
       match n,hn with
       |0,hn=>omega
       |m+1,hn=>
        have:=qIM m _ c.1 c.2 (by omega) h3;simp;omega
     ·cases h
      simp;omega
theorem qKr{l r:List Tok}{x:List Pr}(h:qDz l=.ok (x,r)):x.length<=l.length:=by
 rw[qGN]at h;unfold bnd at h;cases h1:qAR 1 [] l with
 |error z=>rw[h1]at h;cases h
 |ok a=>
  have l1:=qAu (t:=a.1) (r:=a.2) h1;rw[h1]at h;simp only[]at h;cases h2:qAR 2 [58] a.2 with
  |error z=>rw[h2]at h;cases h
  |ok b=>
   have l2:=qAu (t:=b.1) (r:=b.2) h2;rw[h2]at h;simp only[qIY]at h
   split at h
   ·cases h3:qAE b.2 with
    |error z=>rw[h3]at h;cases h
    |ok c=>
     rw[h3]at h;cases h;have:=qFm _ _ c.1 c.2 (Nat.le_refl _) h3;simp;omega
   ·cases h
    simp;omega
theorem qG3:∀(f:Nat) (l:List Tok) (x:List (List Pr)) (r:List Tok),qBk f l=.ok (x,r)->x.length<=l.length/\∀y∈x,y.length<=l.length
 |0,_,_,_,h=>by cases h
 |f+1,l,x,r,h=>by
  rw[qBk]at h;cases h1:qDz l with
  |error z=>rw[h1]at h;cases h
  |ok a=>
   have l1:=qC0 (x:=a.1) (r:=a.2) h1;have l2:=qKr (x:=a.1) (r:=a.2) h1;rw[h1]at h;simp only[]at h
   split at h
   ·next ht=>
    have l3:=qCk ht;cases h2:qBk f (a.2.drop 1)with
    |error z=>rw[h2]at h;cases h
    |ok b=>
     rw[h2]at h;cases h;obtain⟨i1,i2⟩:=qG3 f _ b.1 b.2 h2;refine⟨by simp;omega,fun y hy=> ?_⟩;rcases List.mem_cons.1 hy with rfl|hy
     ·exact l2
     ·have:=i2 y hy;omega
   ·cases h
    exact⟨by simp;omega,fun y hy=>by rw[List.mem_singleton.1 hy];exact l2⟩
def DL(N:Nat)(d:Dc):Prop:=d.take.length<=N/\d.give.length<=N/\d.back.length<=N/\d.rows.length<=N/\d.brs.length<=N/\∀r∈d.rows,r.length<=N
theorem DL.zero(N:Nat)(k:Int)(n:Bs)(a:Int):DL N (Dc.zero k n a):=⟨Nat.zero_le _,Nat.zero_le _,Nat.zero_le _,Nat.zero_le _,Nat.zero_le _,nofun⟩
theorem DL.mono{N M:Nat}{d:Dc}(h:DL N d)(hm:N<=M):DL M d:=⟨Nat.le_trans h.1 hm,Nat.le_trans h.2.1 hm,Nat.le_trans h.2.2.1 hm,Nat.le_trans h.2.2.2.1 hm,Nat.le_trans h.2.2.2.2.1 hm,fun r hr=>Nat.le_trans (h.2.2.2.2.2 r hr) hm⟩
theorem DL.fg{N:Nat}{x:Fg}{d d':Dc}{l r:List Tok}(hd:DL N d)(hl:l.length<=N)(h:pFg x d l=.ok (d',r)):DL N d':=by
 have num:∀(g:Int->Dc),(∀n,DL N (g n))->(match qBg l with|.error z=>(.error z:Rd Dc)|.ok (n,r)=> .ok (g n,r))=.ok (d',r)->DL N d':=by
  intro g hg h;cases hp:qBg l with
  |error z=>rw[hp]at h;cases h
  |ok a=>rw[hp]at h;cases h;exact hg _
 have lst:∀(g:List Pr->Dc),(∀n,n.length<=N->DL N (g n))->(match qAE l with|.error z=>(.error z:Rd Dc)|.ok (n,r)=> .ok (g n,r))=.ok (d',r)->DL N d':=by
  intro g hg h;cases hp:qAE l with
  |error z=>rw[hp]at h;cases h
  |ok a=>rw[hp]at h;cases h;exact hg _ (Nat.le_trans (qFm _ _ a.1 a.2 (Nat.le_refl _) hp) hl)
 obtain⟨h1,h2,h3,h4,h5,h6⟩:=hd;cases x with
 |object=>cases h;exact⟨h1,h2,h3,h4,h5,h6⟩
 |mixed=>cases h;exact⟨h1,h2,h3,h4,h5,h6⟩
 |coin=>cases h;exact⟨h1,h2,h3,h4,h5,h6⟩
 |wear=>exact num (fun n=>{ d with wear:=n }) (fun _=>⟨h1,h2,h3,h4,h5,h6⟩) h
 |level=>exact num (fun n=>{ d with level:=n }) (fun _=>⟨h1,h2,h3,h4,h5,h6⟩) h
 |time=>exact num (fun n=>{ d with time:=n }) (fun _=>⟨h1,h2,h3,h4,h5,h6⟩) h
 |take=>exact lst (fun n=>{ d with take:=n }) (fun _ hn=>⟨hn,h2,h3,h4,h5,h6⟩) h
 |give=>exact lst (fun n=>{ d with give:=n }) (fun _ hn=>⟨h1,hn,h3,h4,h5,h6⟩) h
 |back=>exact lst (fun n=>{ d with back:=n }) (fun _ hn=>⟨h1,h2,hn,h4,h5,h6⟩) h
 |bind=>
  unfold pFg at h;simp only[]at h
  split at h
  ·cases h;exact⟨h1,h2,h3,h4,h5,h6⟩
  ·split at h
   ·cases h;exact⟨h1,h2,h3,h4,h5,h6⟩
   ·cases h
 |chance=>
  unfold pFg at h;simp only[]at h;cases e1:qBg l with
  |error z=>rw[e1]at h;cases h
  |ok a=>
   rw[e1]at h;simp only[]at h;cases e2:qAR 0 wOf a.2 with
   |error z=>rw[e2]at h;cases h
   |ok b=>
    rw[e2]at h;simp only[]at h;cases e3:qBg b.2 with
    |error z=>rw[e3]at h;cases h
    |ok c=>rw[e3]at h;cases h;exact⟨h1,h2,h3,h4,h5,h6⟩
theorem DL.opts{N:Nat}(known:List Fg):∀(f:Nat) (seen:List Fg) (d d':Dc) (l r:List Tok),DL N d->l.length<=N->qAX known f seen d l=.ok (d',r)->DL N d'
 |0,_,_,_,_,_,_,_,h=>by cases h
 |f+1,seen,d,d',[],r,hd,_,h=>by cases h;exact hd
 |f+1,seen,d,d',t::l,r,hd,hl,h=>by
  rw[qAX]at h;simp only[List.length_cons]at hl
  split at h
  ·cases hf:List.find? (fun x=>t.text==x.word) known with
   |none=>rw[hf]at h;cases h
   |some x=>
    rw[hf]at h;simp only[]at h
    split at h
    ·cases h
    ·cases hp:pFg x d l with
     |error z=>rw[hp]at h;cases h
     |ok a=>
      rw[hp]at h;have:=qC2 (d':=a.1) (r:=a.2) hp;exact DL.opts known f _ _ _ _ _ (hd.fg (by omega) (d':=a.1) (r:=a.2) hp) (by omega) h
  ·cases h;exact hd
theorem DL.body{N k:Nat}{d d':Dc}{l r:List Tok}(hd:DL N d)(hl:l.length<=N)(h:qA7 k d l=.ok (d',r)):DL N d':=by
 unfold qA7 at h
 split at h
 ·exact DL.opts _ _ _ _ _ _ _ hd hl h
 ·split at h
  ·exact DL.opts _ _ _ _ _ _ _ hd hl h
  ·obtain⟨h1,h2,h3,h4,h5,h6⟩:=hd
   split at h
   ·cases hp:qBk (l.length+1) l with
    |error z=>rw[hp]at h;cases h
    |ok a=>
     rw[hp]at h;cases h;obtain⟨i1,i2⟩:=qG3 _ _ a.1 a.2 hp;exact⟨h1,h2,h3,Nat.le_trans i1 hl,h5,fun r hr=>Nat.le_trans (i2 r hr) hl⟩
   ·cases hp:qDK l with
    |error z=>rw[hp]at h;cases h
    |ok a=>
     rw[hp]at h;cases h;exact⟨h1,h2,h3,h4,Nat.le_trans (qIM _ _ a.1 a.2 (Nat.le_refl _) hp) hl,h6⟩
theorem DL.decl{d:Dc}{l r:List Tok}(h:qBl l=.ok (d,r)):DL l.length d:=by
 unfold qBl at h;cases hk:qBP l with
 |none=>rw[hk]at h;cases h
 |some k=>
  rw[hk]at h;simp only[]at h;cases h1:qAR 0 [] (l.drop 1)with
  |error z=>rw[h1]at h;cases h
  |ok a=>
   have l1:=qAu (t:=a.1) (r:=a.2) h1;have l2:(l.drop 1).length<=l.length:=by simp
   rw[h1]at h;simp only[]at h;cases h2:qA7 k (Dc.zero k a.1.text a.1.at_) a.2 with
   |error z=>rw[h2]at h;cases h
   |ok b=>
    rw[h2]at h;simp only[]at h;cases h3:qAR 2 [59] b.2 with
    |error z=>rw[h3]at h;cases h
    |ok c=>
     rw[h3]at h;cases h;exact(DL.zero _ _ _ _).body (by omega) (d':=b.1) (r:=b.2) h2
theorem qGR:∀(f:Nat) (l:List Tok) (ds:List Dc),qEo f l=.ok ds->∀d∈ds,DL l.length d
 |0,_,_,h=>by cases h
 |f+1,[],ds,h=>by cases h;exact nofun
 |f+1,t::l,ds,h=>by
  rw[qEo]at h;cases h1:qBl (t::l)with
  |error z=>rw[h1]at h;cases h
  |ok a=>
   rw[h1]at h;simp only[]at h;obtain⟨pre,t9,e1,-⟩:=qGP (d:=a.1) (r:=a.2) h1;have hl:a.2.length<=(t::l).length:=by rw[e1];simp;omega
   cases h2:qEo f a.2 with
   |error z=>rw[h2]at h;cases h
   |ok ds'=>
    rw[h2]at h;cases h;intro d hd;rcases List.mem_cons.1 hd with rfl|hd
    ·exact DL.decl (r:=a.2) h1
    ·exact(qGR f _ _ h2 d hd).mono hl
theorem qCY{s:Bs}{ds:List Dc}(h:qAt s=.ok ds):∀d∈ds,DL 8192 d:=by
 unfold qAt at h;by_cases hs:8192<s.length
 ·rw[if_pos hs]at h;cases h
 ·rw[if_neg hs]at h
  cases hx:lx s.length s with
  |error x=>rw[hx]at h;cases h
  |ok ts=>
   rw[hx]at h;simp only[]at h;unfold qDy at h;have:=qEe s.length s.length s ts (Nat.le_refl _) hx;cases hp:qEo (ts.length+1) ts with
   |error z=>rw[hp]at h;cases h
   |ok ds'=>
    rw[hp]at h;cases h;exact fun d hd=>(qGR _ _ _ hp d hd).mono (by omega)
open Go.RowKit
open Go.RowKit Go.Maps Go.WideMaps
def qKP(f:List Nat->List (List Nat)):List Nat->List (List Nat)
 |[]=>[]
 |x::r=>(f (x::r)).map (x:: ·)++qKP f r
def ext:Nat->List Nat->List (List Nat)
 |0,_=>[[]]
 |m+1,u=>qKP (ext m) u
theorem qA2.keep{w w':World}(h:qA2 w)(hb:Below w.heap.size w w'):qA2 w':=fun k hk=>(hb.cell (p:=⟨0,k,none⟩) h.lt).trans (h k hk)
open Go
section
variable {P:Program}{md:Region.Mode}{ops:Array Oper}{Q:Exit->Act->World->Prop}{S:World->Prop}{last:Nat}
def qCf(P:Program)(md:Region.Mode)(ops:Array Oper)(Q:Exit->Act->World->Prop)(S:World->Prop)(last:Nat):Nat->Array Bool->Act->World->Prop
 |0,listed,a,w=>Region.ready md ops listed=[]/\Q .normal a w
 |fuel+1,listed,a,w=>
  (Region.ready md ops listed=[]->Q .normal a w)/\
  ∀i∈Region.ready md ops listed,wpOp P ops Q i (fun a' w'=>(i≠last->S w')/\qCf P md ops Q S last fuel (listed.setIfInBounds i true) a' w') a w
def qDV(md:Region.Mode)(ops:Array Oper)(last i:Nat):Bool:=
 i != last && match ops[last]? with
  |some o=>o.after.any fun e=>Region.binds md e && e.on==i
  |none=>true
theorem qEw{i:Nat}{listed:Array Bool}(hw:qDV md ops last i=true)(hr:i∈Region.ready md ops listed):last∉Region.ready md ops listed:=by
 intro hl;unfold qDV at hw;obtain⟨hlun,ol,hol,hall⟩:=mem_ready.1 hl;rw[hol]at hw;simp only[Bool.and_eq_true,Array.any_eq_true',beq_iff_eq]at hw;obtain⟨-,e,he,hb,heq⟩:=hw;have h1:=hall e he hb;have h0:=(mem_ready.1 hr).1;rw[heq]at h1;rcases Nat.lt_or_ge i listed.size with h'|h'
 ·simp[h']at h0 h1
  rw[h0]at h1;cases h1
 ·simp[Array.getElem?_eq_none h']at h1
theorem qDt{i:Nat}{oi:Oper}{v:Value}(hi:ops[i]? =some oi)(hsel:∀(j:Nat) (o:Oper) cs b,ops[j]? =some o->o.op≠ .select cs b)
 (hQ:∀c a w,Q (.panic c) (a.put oi.dst v) w->Q (.panic c) a w)(hwt:qDV md ops last i=true)(fuel:Nat):
 ∀(listed:Array Bool) (a:Act) (w:World),
  (∀j oj,ops[j]? =some oj->j≠i->listed.getD j true=false->(∀e∈oj.after,Region.binds md e=true->e.on≠i)->oi.apart ops oj=true)->
  i∈Region.ready md ops listed->YieldsIf P ops S oi v a->S w->
  qCf P md ops Q S last fuel (listed.setIfInBounds i true) (a.put oi.dst v) w->qCf P md ops Q S last (fuel+1) listed a w:=by
 induction fuel with
 |zero=>
  intro listed a w _ hr hy hS H;refine⟨fun h=>absurd hr (by rw[h];simp),fun j hj=> ?_⟩;by_cases hji:j=i
  ·subst hji
   exact hy.wpOp hi hS ⟨fun _=>hS,H⟩
  ·exact absurd (ready_mono hj hji) (by rw[H.1];simp)
 |succ fuel ih=>
  intro listed a w hfree hr hy hS H;refine⟨fun h=>absurd hr (by rw[h];simp),fun j hj=> ?_⟩;by_cases hji:j=i
  ·subst hji
   exact hy.wpOp hi hS ⟨fun _=>hS,H⟩
  ·have hjl:j≠last:=fun e=>qEw hwt hr (e▸hj)
   obtain⟨hjun,oj,hoj,hall⟩:=mem_ready.1 hj;have hnot:∀e∈oj.after,Region.binds md e=true->e.on≠i:=by
    intro e he hb heq;have h1:=hall e he hb;have h0:=(mem_ready.1 hr).1;rw[heq]at h1;rcases Nat.lt_or_ge i listed.size with h'|h'
    ·simp[h']at h0 h1
     rw[h0]at h1;cases h1
    ·simp[Array.getElem?_eq_none h']at h1
   have h2:=wpOp_putIf hoj (hfree j oj hoj hji hjun hnot) (fun cs b=>hsel i oi cs b hi) (fun cs b=>hsel j oj cs b hoj) hQ hy (H.2 j (ready_mono hj hji));refine wpOp_mono (fun a' w' h3=>⟨h3.2.1,ih _ a' w' (fun k ok hk hki hun hno=> ?_) (ready_mono hr (Ne.symm hji)) h3.1 (h3.2.1 hjl) ?_⟩) h2
   ·refine hfree k ok hk hki ?_ hno
    by_cases hjk:j=k
    ·subst hjk;exact hjun
    ·rw[getD_set_ne true hjk]at hun;exact hun
   ·rw[Array.setIfInBounds_comm _ _ hji]
    exact h3.2.2
theorem qK2(i d:Nat){oi:Oper}{v:Value}{fuel:Nat}{listed:Array Bool}{tmps:Array Value}{ds:List Deferred}{w:World}(hi:ops[i]? =some oi)(hd:oi.dst=some d)
 (hs:Region.noSelect ops=true)(hf:Region.free md ops listed i=true)(hr:(Region.ready md ops listed).contains i=true)(hwt:qDV md ops last i=true)
 (hQ:∀c a w,Q (.panic c) (a.put oi.dst v) w->Q (.panic c) a w)(hw:Region.wanted oi (yielded ops tmps)=true)(hy:∀w,S w->(execOp (Act.eval ⟨tmps,ds⟩) oi).run P w=.ok (.value v) w)(hS:S w)
 (h:qCf P md ops Q S last fuel (listed.setIfInBounds i true) ⟨tmps.setIfInBounds d v,ds⟩ w):qCf P md ops Q S last (fuel+1) listed ⟨tmps,ds⟩ w:=
 qDt hi (Region.noSelect_spec hs) hQ hwt fuel listed _ w (Region.free_spec hi hf) (by simpa using hr) (Or.inl ⟨hw,hy⟩) hS (by rw[hd];exact h)
theorem qK8(i d:Nat){oi:Oper}{fuel:Nat}{listed:Array Bool}{tmps:Array Value}{ds:List Deferred}{w:World}(hi:ops[i]? =some oi)(hd:oi.dst=some d)
 (hs:Region.noSelect ops=true)(hf:Region.free md ops listed i=true)(hr:(Region.ready md ops listed).contains i=true)(hwt:qDV md ops last i=true)
 (hQ:∀c a w,Q (.panic c) (a.put oi.dst undef) w->Q (.panic c) a w)(hw:Region.wanted oi (yielded ops tmps)=false)(hS:S w)
 (h:qCf P md ops Q S last fuel (listed.setIfInBounds i true) ⟨tmps.setIfInBounds d undef,ds⟩ w):qCf P md ops Q S last (fuel+1) listed ⟨tmps,ds⟩ w:=
 qDt hi (Region.noSelect_spec hs) hQ hwt fuel listed _ w (Region.free_spec hi hf) (by simpa using hr) (Or.inr ⟨hw,rfl⟩) hS (by rw[hd];exact h)
end
section
variable {P:Program}{md:Region.Mode}{ops:Array Oper}{Q:Exit->Act->World->Prop}{S:World->Prop}{last:Nat}
theorem kU(i d:Nat){oi:Oper}{v:Value}{T:Array Value}{fuel:Nat}{listed:Array Bool}{tmps:Array Value}{ds:List Deferred}{w:World}
    (h:qCf P md ops Q S last fuel (listed.setIfInBounds i true) ⟨T,ds⟩ w)
    (hi:ops[i]? =some oi:=by rfl)(hd:oi.dst=some d:=by rfl)
    (hy:∀w,S w->(execOp (Act.eval ⟨tmps,ds⟩) oi).run P w=.ok (.value v) w:=by(intro w hSw;go_simp;first|done|with_reducible rfl))
    (hT:tmps.setIfInBounds d v=T:=by(simp only[List.setIfInBounds_toArray,List.set_cons_zero,List.set_cons_succ];try rfl))
    (hs:Region.noSelect ops=true:=by kernel_rfl)(hf:Region.free md ops listed i=true:=by kernel_rfl)(hr:(Region.ready md ops listed).contains i=true:=by kernel_rfl)(hwt:qDV md ops last i=true:=by kernel_rfl)
    (hQ:∀c a w,Q (.panic c) (a.put oi.dst v) w->Q (.panic c) a w:=by exact fun _ _ _ h=>h)(hw:Region.wanted oi (yielded ops tmps)=true:=by rfl)(hS:S w:=by assumption):qCf P md ops Q S last (fuel+1) listed ⟨tmps,ds⟩ w:=
  qK2 i d hi hd hs hf hr hwt hQ hw hy hS (hT▸h)
theorem jU(i d:Nat){oi:Oper}{T:Array Value}{fuel:Nat}{listed:Array Bool}{tmps:Array Value}{ds:List Deferred}{w:World}
    (h:qCf P md ops Q S last fuel (listed.setIfInBounds i true) ⟨T,ds⟩ w)
    (hi:ops[i]? =some oi:=by rfl)(hd:oi.dst=some d:=by rfl)
    (hT:tmps.setIfInBounds d undef=T:=by(simp only[List.setIfInBounds_toArray,List.set_cons_zero,List.set_cons_succ];try rfl))
    (hs:Region.noSelect ops=true:=by kernel_rfl)(hf:Region.free md ops listed i=true:=by kernel_rfl)(hr:(Region.ready md ops listed).contains i=true:=by kernel_rfl)(hwt:qDV md ops last i=true:=by kernel_rfl)
    (hQ:∀c a w,Q (.panic c) (a.put oi.dst undef) w->Q (.panic c) a w:=by exact fun _ _ _ h=>h)(hw:Region.wanted oi (yielded ops tmps)=false:=by rfl)(hS:S w:=by assumption):qCf P md ops Q S last (fuel+1) listed ⟨tmps,ds⟩ w:=
  qK8 i d hi hd hs hf hr hwt hQ hw hS (hT▸h)
end
theorem qAg.alloc{S:Nat->Prop}{w w':World}(h:qAg S w w')(o:Obj):qAg S w (w'.alloc o):=
 ⟨h.os,h.tape,h.output,Nat.le_trans h.size (by simp),fun k hk hn=>(Below.heap_alloc w' o k (Nat.lt_of_lt_of_le hk h.size)).trans (h.block k hk hn)⟩
open Go
open Go.RowKit Go.Shelf
attribute [local go_sem] Oper.semAt_some
def qKy(n0:Nat)(W W':World):Prop:=W.heap.size<=W'.heap.size/\∀b,n0<=b->b<W.heap.size->W'.heap[b]? =W.heap[b]?
theorem One.up{n0:Nat}{W W':World}{b:Nat}{t:TypeId}{v:Value}(h:One W b t v)(hk:qKy n0 W W')(hb:n0<=b):One W' b t v:=(hk.2 b hb h.lt).trans h
theorem qBS{P:Program}{W0 w:World}{ops:Array Oper}{o:Oper}{a:Act}{K:Act->World->Prop}{Q:Exit->Act->World->Prop}{E:Prop}{B k bytes:Nat}{t e:TypeId}(hE:qDT P t e k bytes)(hgd:o.guard=none)(s x:Operand)
 (ho:o.op=.call { callee:=.builtin .append,args:=#[s,x],argTypes:=#[t,t] })(cs:List Value)(g0:Nat)
 (v:Value)(n:Nat)(xs:List Value)(hs:a.eval s=v)(hx:a.eval x=.slice (some ⟨g0,0,none⟩) 1 1)(hg0:qAy w g0 e cs)(hcs:cs.length=k)(h1:∀u∈cs,u.oneCell'=true)
 (hown:w.ownsRow B e k v n xs)(hB:Below B W0 w)(hle:B<=w.heap.size)(hn:n<=1000000000)(hby:bytes<=1000)
 (h:∀g cap w',Hid (w'.ownsRow B e k (.slice (some ⟨g,0,none⟩) (n+1) cap) (n+1) (xs++cs))->Hid (Below B W0 w')->Hid (qAg (fun b=>v.ownBlock=some b) w w')->cap<=9223372036854775807->n+1<=cap->K (a.put o.dst (.slice (some ⟨g,0,none⟩) (n+1) cap)) w'):
 if Region.wanted o (yielded ops a.tmps)=true then Oper.wp P o a w K Q else E:=by
 obtain⟨ht,i,z,hi,hz,hsize,hbyt,hzs,hk⟩:=hE;have hcap:(n+1)*bytes<=140737488355328:=Nat.le_trans (Nat.mul_le_mul (show n+1<=1000000001 by omega) hby) (by decide);refine step_append_lies w hgd s x t ho B e i z k bytes ht hi hz hsize hbyt hzs hk v n xs hs hown ⟨g0,0,none⟩ 1 1 cs hx (by rw[Nat.one_mul];exact hcs) ?_ h1 (by omega) (by unfold maxLen;omega) hcap hle w.heap.size rfl ?_
 ·intro j u hu
  have hadd:(⟨g0,0,none⟩:Addr).add j=⟨g0,j,none⟩:=by unfold Addr.add;split<;>simp_all
  rw[hadd,hg0.cell];exact hu
 ·intro g cap w' ho' hg hat hlt
  have hO:=qBv hg;have hc2:cap<=9223372036854775807/\n+1<=cap:=by
   rcases ho'.2 with ⟨hv,_⟩|⟨_,_,_,hv,_,_,h4,h3,_⟩
   ·cases hv
   ·injection hv with _ _ e
    unfold maxLen at h3;omega
  exact h g cap w' (hZ ho') (hZ (hO.below hB hle (fun k e=>(hown.lt k e).1))) (hZ hO) hc2.1 hc2.2
end Go.Proofs.YtpmnbcdjoomgcaaDoor
