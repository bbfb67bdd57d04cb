/- The reference's reader of tokens: the next token. -/
import Derived.Test.YtpmnbcdjoomgcaaGreatDoorQPGApp
import Derived.Deep.RegionHeld3
import Derived.IntWalk
set_option linter.unusedVariables false
set_option linter.unusedSimpArgs false
set_option maxHeartbeats 1000000
set_option maxRecDepth 100000
namespace Go.Proofs.YtpmnbcdjoomgcaaGreatDoor
open Go.RowKit
def Rdr(w:World)(b N:Nat)(l:List Tok)(cs:List Value):Prop:=∃v,RdB w b v N cs/\qDB 105 w v l
theorem Rdr.kp{X:List TypeId}{w w':World}{b N:Nat}{l:List Tok}{cs:List Value}(h:Rdr w b N l cs)(hk:KpX X w w')(h1:70∉X)(h2:105∉X):Rdr w' b N l cs:=by
 obtain⟨v,h3,h4⟩:=h;exact⟨v,hk _ _ b h1 h3,h4.kp hk h2⟩
theorem Rdr.below{w w':World}{b N:Nat}{l:List Tok}{cs:List Value}(h:Rdr w b N l cs)(hb:Below w.heap.size w w'):Rdr w' b N l cs:=h.kp (KpX.of_below (X:=[]) hb) (by simp) (by simp)
theorem Rdr.lt{w:World}{b N:Nat}{l:List Tok}{cs:List Value}(h:Rdr w b N l cs):b<w.heap.size:=by
 obtain⟨v,h3,h4⟩:=h;exact h3.lt
theorem Rdr.kpx{w w':World}{b N:Nat}{l:List Tok}{cs:List Value}(h:Rdr w b N l cs)(ho:qAf (fun k=>k=b) w w'):KpX [70] w w':=by
 obtain⟨v,h3,h4⟩:=h;exact h3.kpx ho
theorem KpX.own{X:List TypeId}{w w':World}{base k n:Nat}{e:TypeId}{v:Value}{xs:List Value}(h:w.ownsRow base e k v n xs)(ho:qAf (fun b=>v.ownBlock=some b) w w')(he:e∈X):KpX X w w':=
 KpX.of_only ho (fun b hb t cs hc=>by
  rcases h.2 with ⟨hv,_⟩|⟨g,cap,cur,hv,_,hh,_⟩
  ·rw[hv]at hb;cases hb
  ·rw[hv]at hb
   injection hb with hb;subst hb;rw[hc]at hh;injection hh with hh;injection hh with _ hh;exact hh▸he)
def qGx(w:World)(b:Nat):Nat:=match w.cell? ⟨b,0,none⟩with|some (.slice _ n _)=>n|_=>0
theorem Rdr.len{w:World}{b N:Nat}{l:List Tok}{cs:List Value}(h:Rdr w b N l cs):qGx w b=l.length:=by
 obtain⟨v,h3,h4⟩:=h;obtain⟨a,cap,rfl,-⟩:=h4.form;have:w.cell? ⟨b,0,none⟩=some (.slice a l.length cap):=h3.cell 0;unfold qGx;rw[this]
def prC(p:Pr):List Value:=[.int .i64 p.n,.string ⟨p.name.toArray⟩,.int .i64 p.at_]
def qAA(e:TypeId)(w:World)(v:Value)(l:List Pr):Prop:=TSl e 3 (fun _ p cs=>cs=prC p) w v l
theorem qAA.kp{e:TypeId}{X:List TypeId}{w w':World}{v:Value}{l:List Pr}(h:qAA e w v l)(hk:KpX X w w')(he:e∉X):qAA e w' v l:=TSl.kp h hk he (fun _ _ h=>h)
theorem qAA.of_own{e:TypeId}{w:World}{base:Nat}{v:Value}{l:List Pr}(h:w.ownsRow base e 3 v l.length (l.flatMap prC)):qAA e w v l:=by
 refine TSl.of_own (css:=l.map prC) (base:=base) (n:=l.length) (by rw[<-List.flatMap_def];exact h) rfl (by simp[prC]) (by simp) ?_;intro j h1 h2;simp
theorem qJ6:qD4 Tryz.prog 50 55 3 32:=qD4.mk (z:=.agg #[.int .i64 0,.string ⟨#[]⟩,.int .i64 0]) Tryz.underlying50 (by kernel_rfl) rfl (by decide)
def qFF{α:Type}(acc:List α)(x:Rd (List α)):Rd (List α):=match x with|.ok (y,z)=> .ok (acc++y,z)|.error z=> .error z
theorem qDp{α:Type}(x:Rd (List α)):qFF [] x=x:=by
 cases x with
 |error z=>rfl
 |ok y=>rfl
theorem qCg{α:Type}(a b:List α)(x:Rd (List α)):qFF a (qFF b x)=qFF (a++b) x:=by
 cases x with
 |error z=>rfl
 |ok y=>simp[qFF]
theorem qBb{l r:List Tok}{n:Int}(h:qAP l=.ok (n,r)):r.length+1=l.length:=by
 unfold qAP at h;cases h1:qAL 1 [] l with
 |error z=>rw[h1]at h;cases h
 |ok y=>
  obtain⟨t,l'⟩:=y;rw[h1]at h;cases h;exact qAv h1
theorem qD5(l:List Tok):qAw l=match qAP l with
 |.error z=> .error z
 |.ok (n,l2)=>match qAL 0 [] l2 with
  |.error z=> .error z
  |.ok (t,l3)=>if isT 2 [44] l3 then qFF [⟨n,t.text,t.at_⟩] (qAw (l3.drop 1))else .ok ([⟨n,t.text,t.at_⟩],l3):=by
 cases l with
 |nil=>rfl
 |cons a l=>
  rw[qAw.eq_def];unfold qAP qAL;by_cases ha:a.is 1 []=true
  ·simp only[if_pos ha]
   cases l with
   |nil=>rfl
   |cons b l=>
    by_cases hb:b.is 0 []=true
    ·simp only[if_pos hb]
     cases l with
     |nil=>rfl
     |cons c l=>
      by_cases hc:c.is 2 [44]=true
      ·have hc2:isT 2 [44] (c::l)=true:=hc
       simp only[if_pos hc,if_pos hc2,List.drop_succ_cons,List.drop_zero];cases qAw l with
       |error z=>rfl
       |ok y=>rfl
      ·have hc2:¬isT 2 [44] (c::l)=true:=hc
       simp only[if_neg hc,if_neg hc2]
    ·simp only[if_neg hb]
  ·simp only[if_neg ha]
theorem qAf.behind{S:Nat->Prop}{w w' w2:World}(h:qAf S w w')(hb:Below w.heap.size w' w2):qAf S w w2:=
 ⟨hb.os.trans h.os,hb.tape.trans h.tape,hb.output.trans h.output,Nat.le_trans h.size hb.size,fun k hk hn=>(hb.block k hk).trans (h.block k hk hn)⟩
theorem qBk{b N:Nat}{w w' w2:World}{l:List Tok}{cs:List Value}(h:qGI b N w' w2 l cs)(ho:qAf (fun k=>k=b) w w'):qGI b N w w2 l cs:=⟨h.1,ho.trans h.2⟩
theorem qD6(b N:Nat)(cs:List Value)(l:List Tok)(w:World)(hr:Rdr w b N l cs)(hl:l.length<=100000):
 Calls Tryz.prog 55 #[.pointer (some ⟨b,0,none⟩)] w fun e w'=>
  (∃x l' u,qAw l=.ok (x,l')/\e=.returned u/\qAA 55 w' u x/\qGI b N w w' l' cs)\/(∃z,qAw l=.error z/\qGJ b N w w' z e):=by
 have HR:=hZ hr;have hlt:=hr.lt;have H0:=hZ hl;clear hr hl
 go_enter Tryz.func55,Tryz.ntmps55
 go_wp2_with fail
 go_loopw [3] (fun v wr=>∃(acc:List Pr) (l1:List Tok),Hid (qAw l=qFF acc (qAw l1))/\Hid (acc.length+l1.length<=100000)/\Hid (Rdr wr b N l1 cs)/\Hid (wr.ownsRow w.heap.size 55 3 v acc.length (acc.flatMap prC))/\Hid (qAf (fun k=>k=b) w wr)) (fun _ wr=>qGx wr b)
 case atStart=>exact⟨[],l,hZ (qDp _).symm,hZ (by have:=H0.o;simp;exact this),HR,hZ (World.ownsRow_nil _ _ _ _),hZ (qAf.refl _ _)⟩
 case round=>
  obtain⟨acc,l1,HE,HL,HR1,HO,HK⟩:=hrel;clear HR;obtain⟨v1,hb1,ht1⟩:=HR1.o;have HC:=hZ (qBd b N v1 cs l1 wr hb1 ht1);clear hb1 ht1;have HQ:=hZ (qD5 l1)
  go_wp2_with fail
  refine HC.o.mono ?_;rintro e w2 (⟨n,l2,h1,rfl,hr2⟩|⟨z,h1,rfl,hr2⟩);rotate_left
  ·rw[h1]at HQ
   have HB:=hZ hr2;clear hr2 h1
   go_wp2_with fail
   exact⟨rfl,.inr ⟨z,by rw[HE.o,HQ.o];rfl,rfl,HK.o.trans HB.o⟩⟩
  rw[h1]at HQ;simp only[]at HQ;have HB2:=hZ hr2;have HN1:=hZ h1;clear hr2 h1;have HO2:Hid (w2.ownsRow w.heap.size 55 3 _ acc.length (acc.flatMap prC)):=hZ (HB2.o.2.own HO.o (fun k hk he=>by have:=(HO.o.lt k hk).1;omega));have HK2:=hZ (HK.o.trans HB2.o.2);have HR2:Hid (Rdr w2 b N l2 cs):=hZ HB2.o.1;clear HB2 HO HK
  go_wp2_with fail
  obtain⟨v2,hb2,ht2⟩:=HR2.o;refine(qAU b N v2 cs l2 0 [] w2 hb2 ht2).mono ?_;rintro e w3 (⟨t,l3,h1,rfl,hr3⟩|⟨z,h1,rfl,hr3⟩);rotate_left
  ·rw[h1]at HQ
   have HB:=hZ hr3;clear hr3 h1 hb2 ht2
   go_wp2_with fail
   exact⟨rfl,.inr ⟨z,by rw[HE.o,HQ.o];rfl,rfl,HK2.o.trans HB.o⟩⟩
  rw[h1]at HQ;simp only[]at HQ;have HO3:Hid (w3.ownsRow w.heap.size 55 3 _ acc.length (acc.flatMap prC)):=hZ (hr3.2.own HO2.o (fun k hk he=>by have:=(HO2.o.lt k hk).1;omega));have HK3:=hZ (HK2.o.trans hr3.2);have HR3:Hid (Rdr w3 b N l3 cs):=hZ hr3.1;have hl3:=qAv h1;clear hr3 h1 hb2 ht2 HO2 HK2 HR2;unfold qE9;obtain⟨w4,hw4⟩:=eX (w3.alloc (.cells #[.int .i64 t.kind,.string ⟨t.text.toArray⟩,.int .i64 t.n,.int .i64 t.at_] 105));have hB4:Below w3.heap.size w3 w4:=by rw[<-hw4];exact qAa _ _
  have t1:w4.cell? ⟨w3.heap.size,1,none⟩=some (.string ⟨t.text.toArray⟩):=by rw[<-hw4];simp
  have t3:w4.cell? ⟨w3.heap.size,3,none⟩=some (.int .i64 t.at_):=by rw[<-hw4];simp
  have HO4:Hid (w4.ownsRow w.heap.size 55 3 _ acc.length (acc.flatMap prC)):=hZ ((qAf.of_below (S:=fun _=>False) hB4).own HO3.o (fun _ _ h=>h));have HR4:Hid (Rdr w4 b N l3 cs):=hZ (HR3.o.below hB4);have HK4:=hZ (HK3.o.trans (qAf.of_below hB4));clear hB4 HO3 HR3 HK3;have hac:acc.length<=100000:=by have:=HL.o;omega
  go_wp2_with (at_builtin;refine qAB (W0:=w4) qJ6 rfl _ _ rfl (prC ⟨n,t.text,t.at_⟩) 55 _ _ _ rfl rfl rfl (by simp[prC,Value.oneCell']) HO4.o (Below.refl _ _) HK4.o.size (by omega) (by omega) ?_)
  intro g5 cap5 w5 HO5 HB5 HW5 hcap5 hat5;clear hw4 t1 t3;have HR5:Hid (Rdr w5 b N l3 cs):=hZ (HR4.o.kp (KpX.own (X:=[55]) HO4.o HW5.o (by simp)) (by decide) (by decide));have HK5:=hZ (HK4.o.behind HB5.o);clear HR4 HK4 HO4 HB5 HW5 hat5;have HA:(acc++[(⟨n,t.text,t.at_⟩:Pr)]).flatMap prC=acc.flatMap prC++prC ⟨n,t.text,t.at_⟩:=by simp
  obtain⟨p,hp⟩:∃p:Pr,p=⟨n,t.text,t.at_⟩:=⟨_,rfl⟩;rw[<-hp]at HQ HA HO5;rw[<-HA]at HO5;obtain⟨acc',ha'⟩:∃acc',acc'=acc++[p]:=⟨_,rfl⟩;have hal:acc.length+1=acc'.length:=by rw[ha'];simp
  rw[<-ha',hal]at HO5;have HL5:Hid (acc'.length+l3.length<=100000/\l3.length<l1.length):=hZ (by
   have:=HL.o;have h9:=qBb HN1.o;omega)
  obtain⟨v5,hb5,ht5⟩:=HR5.o;have HC5:=hZ (qCY b N v5 cs l3 [44] w5 hb5 ht5);clear hb5 ht5 hp HA;rw[hal];clear hal hac hcap5;by_cases hs:isT 2 [44] l3=true
  ·rw[hs]at HC5
   rw[if_pos hs]at HQ;unfold qIY at HC5;rw[hs,if_pos rfl]at HC5;have Hs:=hZ hs;have Ha:=hZ ha';clear hs ha'
   go_wp2_with fail
   refine HC5.o.mono ?_;rintro e w6 ⟨rfl,hr6⟩;have HO6:Hid (w6.ownsRow w.heap.size 55 3 _ acc'.length (acc'.flatMap prC)):=hZ (hr6.2.own HO5.o (fun k hk he=>by have:=(HO5.o.lt k hk).1;omega));have HK6:=hZ (HK5.o.trans hr6.2);have HR6:Hid (Rdr w6 b N (l3.drop 1) cs):=hZ hr6.1;clear hr6 HC5 HR5 HK5 HO5
   go_wp2_with fail
   go_roundw
   case rel=>
    exact⟨acc',l3.drop 1,hZ (by rw[HE.o,HQ.o,qCg,Ha.o]),hZ (by have:=HL5.o;simp;omega),HR6,HO6,HK6⟩
   case measure=>
    rw[HR6.o.len,HR1.o.len];have:=HL5.o;simp;omega
  ·rw[Bool.not_eq_true]at hs
   rw[hs]at HC5;rw[if_neg (by rw[hs];simp)]at HQ;unfold qIY at HC5;rw[hs,if_neg (by simp)]at HC5;have Ha:=hZ ha';clear hs ha'
   go_wp2_with fail
   refine HC5.o.mono ?_;rintro e w6 ⟨rfl,hr6⟩;have HO6:Hid (w6.ownsRow w.heap.size 55 3 _ acc'.length (acc'.flatMap prC)):=hZ (hr6.2.own HO5.o (fun k hk he=>by have:=(HO5.o.lt k hk).1;omega));have HK6:=hZ (HK5.o.trans hr6.2);have HR6:Hid (Rdr w6 b N l3 cs):=hZ hr6.1;clear hr6 HC5 HR5 HK5 HO5
   go_wp2_with fail
   go_ret;exact .inl ⟨acc',l3,_,by rw[HE.o,HQ.o];rw[Ha.o];rfl,rfl,qAA.of_own HO6.o,HR6.o,HK6.o⟩
def qAZ(e et:TypeId)(w:World)(v:Value)(l:List (List Pr)):Prop:=TSl et 1 (fun w r cs=>∃u,cs=[u]/\qAA e w u r) w v l
def brC(x:Int×Int):List Value:=[.int .i64 x.1,.int .i64 x.2]
def qCM(w:World)(v:Value)(l:List (Int×Int)):Prop:=TSl 98 2 (fun _ x cs=>cs=brC x) w v l
theorem qAZ.kp{e et:TypeId}{X:List TypeId}{w w':World}{v:Value}{l:List (List Pr)}(h:qAZ e et w v l)(hk:KpX X w w')(he:e∉X)(he2:et∉X):qAZ e et w' v l:=
 TSl.kp h hk he2 (fun _ _ ⟨u,h1,h2⟩=>⟨u,h1,h2.kp hk he⟩)
theorem qCM.kp{X:List TypeId}{w w':World}{v:Value}{l:List (Int×Int)}(h:qCM w v l)(hk:KpX X w w')(he:98∉X):qCM w' v l:=TSl.kp h hk he (fun _ _ h=>h)
structure Ls where
 t:Value
 g:Value
 b:Value
 r:Value
 x:Value
def dcC(d:Dc)(y:Ls):List Value:=[.int .i64 d.kind,.string ⟨d.name.toArray⟩,.int .i64 d.at_,.bool d.object,.bool d.mixed,.bool d.coin,.int .i64 d.wear,.int .i64 d.bind,.int .i64 d.level,.int .i64 d.time,.int .i64 d.chance,.int .i64 d.of_,y.t,y.g,y.b,y.r,y.x]
structure qJW(e et:TypeId)(w:World)(d:Dc)(y:Ls):Prop where
 t:qAA e w y.t d.take
 g:qAA e w y.g d.give
 b:qAA e w y.b d.back
 r:qAZ e et w y.r d.rows
 x:qCM w y.x d.brs
def qHO(e et:TypeId)(w:World)(cs:List Value)(d:Dc):Prop:=∃y,cs=dcC d y/\qJW e et w d y
theorem qJW.kp{e et:TypeId}{X:List TypeId}{w w':World}{d:Dc}{y:Ls}(h:qJW e et w d y)(hk:KpX X w w')(h1:e∉X)(h2:et∉X)(h3:98∉X):qJW e et w' d y:=
 ⟨h.t.kp hk h1,h.g.kp hk h1,h.b.kp hk h1,h.r.kp hk h1 h2,h.x.kp hk h3⟩
theorem qHO.kp{e et:TypeId}{X:List TypeId}{w w':World}{cs:List Value}{d:Dc}(h:qHO e et w cs d)(hk:KpX X w w')(h1:e∉X)(h2:et∉X)(h3:98∉X):qHO e et w' cs d:=by
 obtain⟨y,h4,h5⟩:=h;exact⟨y,h4,h5.kp hk h1 h2 h3⟩
abbrev DPar:=qHO 55 50
theorem DPar.kr{w w':World}{cs:List Value}{d:Dc}(h:DPar w cs d)(hk:KpX [70] w w'):DPar w' cs d:=h.kp hk (by decide) (by decide) (by decide)
abbrev LPar:=qJW 55 50
theorem qJW.kr{w w':World}{d:Dc}{y:Ls}(h:LPar w d y)(hk:KpX [70] w w'):LPar w' d y:=h.kp hk (by decide) (by decide) (by decide)
theorem RdB.setC{w:World}{b N:Nat}{v:Value}{cs:List Value}(h:RdB w b v N cs)(i:Nat)(u:Value):RdB (w.setCell ⟨b,i+2,none⟩ u) b v N (cs.set i u):=by
 unfold RdB at h ⊢;simp[World.setCell,Array.getElem?_modify,h]
theorem RdB.setOk{w:World}{b N:Nat}{v:Value}{cs:List Value}{l:List Tok}(h:RdB w b v N cs)(ht:qDB 105 w v l)(i:Nat)(u:Value):qGI b N w (w.setCell ⟨b,i+2,none⟩ u) l (cs.set i u):=
 ⟨⟨v,h.setC i u,ht.kp (KpX.set (X:=[70]) h (by simp) _) (by decide)⟩,(qAf.refl (fun k=>k=b) w).set (p:=⟨b,i+2,none⟩) rfl _⟩
def qBs(b N:Nat)(x:Rd Dc)(w:World)(e:Ending)(w':World):Prop:=
 (∃d' l' cs',x=.ok (d',l')/\e=.returned (.tuple #[])/\DPar w' cs' d'/\qGI b N w w' l' cs')\/(∃z,x=.error z/\qGJ b N w w' z e)
theorem qHz(b N:Nat)(cs:List Value)(d:Dc)(l:List Tok)(w:World)(hr:Rdr w b N l cs)(hd:DPar w cs d)(hl:l.length<=100000):
 Calls Tryz.prog 24 #[.pointer (some ⟨b,0,none⟩)] w (qBs b N (pFg .object d l) w):=by
 obtain⟨y,rfl,hy⟩:=hd;obtain⟨v,hb,ht⟩:=hr;have c:w.cell? ⟨b,5,none⟩=some (.bool d.object):=hb.cell 5;have f:=hb.frozen 5;have HS:=hZ (hb.setOk ht 3 (.bool true));have HY:=hZ (hy.kr (hb.kpx HS.o.2));clear hb ht hy
 go_enter Tryz.func24,Tryz.ntmps24
 go_wp2_with fail
 go_end0
 exact .inl ⟨{ d with object:=true },l,_,rfl,rfl,⟨y,rfl,HY.o.t,HY.o.g,HY.o.b,HY.o.r,HY.o.x⟩,HS.o⟩
theorem qIo(b N:Nat)(cs:List Value)(d:Dc)(l:List Tok)(w:World)(hr:Rdr w b N l cs)(hd:DPar w cs d)(hl:l.length<=100000):
 Calls Tryz.prog 25 #[.pointer (some ⟨b,0,none⟩)] w (qBs b N (pFg .mixed d l) w):=by
 obtain⟨y,rfl,hy⟩:=hd;obtain⟨v,hb,ht⟩:=hr;have c:w.cell? ⟨b,6,none⟩=some (.bool d.mixed):=hb.cell 6;have f:=hb.frozen 6;have HS:=hZ (hb.setOk ht 4 (.bool true));have HY:=hZ (hy.kr (hb.kpx HS.o.2));clear hb ht hy
 go_enter Tryz.func25,Tryz.ntmps25
 go_wp2_with fail
 go_end0
 exact .inl ⟨{ d with mixed:=true },l,_,rfl,rfl,⟨y,rfl,HY.o.t,HY.o.g,HY.o.b,HY.o.r,HY.o.x⟩,HS.o⟩
theorem qJN(b N:Nat)(cs:List Value)(d:Dc)(l:List Tok)(w:World)(hr:Rdr w b N l cs)(hd:DPar w cs d)(hl:l.length<=100000):
 Calls Tryz.prog 26 #[.pointer (some ⟨b,0,none⟩)] w (qBs b N (pFg .coin d l) w):=by
 obtain⟨y,rfl,hy⟩:=hd;obtain⟨v,hb,ht⟩:=hr;have c:w.cell? ⟨b,7,none⟩=some (.bool d.coin):=hb.cell 7;have f:=hb.frozen 7;have HS:=hZ (hb.setOk ht 5 (.bool true));have HY:=hZ (hy.kr (hb.kpx HS.o.2));clear hb ht hy
 go_enter Tryz.func26,Tryz.ntmps26
 go_wp2_with fail
 go_end0
 exact .inl ⟨{ d with coin:=true },l,_,rfl,rfl,⟨y,rfl,HY.o.t,HY.o.g,HY.o.b,HY.o.r,HY.o.x⟩,HS.o⟩
theorem qI2(b N:Nat)(cs:List Value)(d:Dc)(l:List Tok)(w:World)(hr:Rdr w b N l cs)(hd:DPar w cs d)(hl:l.length<=100000):
 Calls Tryz.prog 27 #[.pointer (some ⟨b,0,none⟩)] w (qBs b N (pFg .wear d l) w):=by
 obtain⟨y,rfl,hy⟩:=hd;obtain⟨v,hb,ht⟩:=hr;have HY0:=hZ hy;have HC:=hZ (qBd b N v _ l w hb ht);have HR0:Hid (Rdr w b N l _):=hZ ⟨v,hb,ht⟩;clear hb ht hy
 go_enter Tryz.func27,Tryz.ntmps27
 go_wp2_with fail
 refine HC.o.mono ?_;rintro e w2 (⟨n,l2,h1,rfl,hr2⟩|⟨z,h1,rfl,hr2⟩);rotate_left
 ·have HT:=hZ h1
  have HB:=hZ hr2;clear hr2 h1
  go_wp2_with fail
  exact⟨rfl,.inr ⟨z,by unfold pFg;rw[HT.o],rfl,HB.o⟩⟩
 have HT:=hZ h1;obtain⟨⟨v2,hb2,ht2⟩,hO⟩:=hr2;have c:w2.cell? ⟨b,8,none⟩=some (.int .i64 d.wear):=hb2.cell 8;have f:=hb2.frozen 8;have HS:=hZ (hb2.setOk ht2 6 (.int .i64 n));have HY:=hZ ((HY0.o.kr (HR0.o.kpx hO)).kr (hb2.kpx HS.o.2));have HO:=hZ hO;clear hb2 ht2 h1 hO
 go_wp2_with fail
 go_end0
 exact .inl ⟨{ d with wear:=n },l2,_,by unfold pFg;rw[HT.o],rfl,⟨y,rfl,HY.o.t,HY.o.g,HY.o.b,HY.o.r,HY.o.x⟩,qBk HS.o HO.o⟩
theorem qIu(b N:Nat)(cs:List Value)(d:Dc)(l:List Tok)(w:World)(hr:Rdr w b N l cs)(hd:DPar w cs d)(hl:l.length<=100000):
 Calls Tryz.prog 29 #[.pointer (some ⟨b,0,none⟩)] w (qBs b N (pFg .level d l) w):=by
 obtain⟨y,rfl,hy⟩:=hd;obtain⟨v,hb,ht⟩:=hr;have HY0:=hZ hy;have HC:=hZ (qBd b N v _ l w hb ht);have HR0:Hid (Rdr w b N l _):=hZ ⟨v,hb,ht⟩;clear hb ht hy
 go_enter Tryz.func29,Tryz.ntmps29
 go_wp2_with fail
 refine HC.o.mono ?_;rintro e w2 (⟨n,l2,h1,rfl,hr2⟩|⟨z,h1,rfl,hr2⟩);rotate_left
 ·have HT:=hZ h1
  have HB:=hZ hr2;clear hr2 h1
  go_wp2_with fail
  exact⟨rfl,.inr ⟨z,by unfold pFg;rw[HT.o],rfl,HB.o⟩⟩
 have HT:=hZ h1;obtain⟨⟨v2,hb2,ht2⟩,hO⟩:=hr2;have c:w2.cell? ⟨b,10,none⟩=some (.int .i64 d.level):=hb2.cell 10;have f:=hb2.frozen 10;have HS:=hZ (hb2.setOk ht2 8 (.int .i64 n));have HY:=hZ ((HY0.o.kr (HR0.o.kpx hO)).kr (hb2.kpx HS.o.2));have HO:=hZ hO;clear hb2 ht2 h1 hO
 go_wp2_with fail
 go_end0
 exact .inl ⟨{ d with level:=n },l2,_,by unfold pFg;rw[HT.o],rfl,⟨y,rfl,HY.o.t,HY.o.g,HY.o.b,HY.o.r,HY.o.x⟩,qBk HS.o HO.o⟩
theorem qI4(b N:Nat)(cs:List Value)(d:Dc)(l:List Tok)(w:World)(hr:Rdr w b N l cs)(hd:DPar w cs d)(hl:l.length<=100000):
 Calls Tryz.prog 30 #[.pointer (some ⟨b,0,none⟩)] w (qBs b N (pFg .time d l) w):=by
 obtain⟨y,rfl,hy⟩:=hd;obtain⟨v,hb,ht⟩:=hr;have HY0:=hZ hy;have HC:=hZ (qBd b N v _ l w hb ht);have HR0:Hid (Rdr w b N l _):=hZ ⟨v,hb,ht⟩;clear hb ht hy
 go_enter Tryz.func30,Tryz.ntmps30
 go_wp2_with fail
 refine HC.o.mono ?_;rintro e w2 (⟨n,l2,h1,rfl,hr2⟩|⟨z,h1,rfl,hr2⟩);rotate_left
 ·have HT:=hZ h1
  have HB:=hZ hr2;clear hr2 h1
  go_wp2_with fail
  exact⟨rfl,.inr ⟨z,by unfold pFg;rw[HT.o],rfl,HB.o⟩⟩
 have HT:=hZ h1;obtain⟨⟨v2,hb2,ht2⟩,hO⟩:=hr2;have c:w2.cell? ⟨b,11,none⟩=some (.int .i64 d.time):=hb2.cell 11;have f:=hb2.frozen 11;have HS:=hZ (hb2.setOk ht2 9 (.int .i64 n));have HY:=hZ ((HY0.o.kr (HR0.o.kpx hO)).kr (hb2.kpx HS.o.2));have HO:=hZ hO;clear hb2 ht2 h1 hO
 go_wp2_with fail
 go_end0
 exact .inl ⟨{ d with time:=n },l2,_,by unfold pFg;rw[HT.o],rfl,⟨y,rfl,HY.o.t,HY.o.g,HY.o.b,HY.o.r,HY.o.x⟩,qBk HS.o HO.o⟩
theorem qI6(b N:Nat)(cs:List Value)(d:Dc)(l:List Tok)(w:World)(hr:Rdr w b N l cs)(hd:DPar w cs d)(hl:l.length<=100000):
 Calls Tryz.prog 32 #[.pointer (some ⟨b,0,none⟩)] w (qBs b N (pFg .take d l) w):=by
 obtain⟨y,rfl,hy⟩:=hd;obtain⟨v,hb,ht⟩:=hr;have HY0:=hZ hy;have HC:=hZ (qD6 b N _ l w ⟨v,hb,ht⟩ hl);have HR0:Hid (Rdr w b N l _):=hZ ⟨v,hb,ht⟩;clear hb ht hy
 go_enter Tryz.func32,Tryz.ntmps32
 go_wp2_with fail
 refine HC.o.mono ?_;rintro e w2 (⟨x,l2,u,h1,rfl,hp,hr2⟩|⟨z,h1,rfl,hr2⟩);rotate_left
 ·have HT:=hZ h1
  have HB:=hZ hr2;clear hr2 h1
  go_wp2_with fail
  exact⟨rfl,.inr ⟨z,by unfold pFg;rw[HT.o],rfl,HB.o⟩⟩
 have HT:=hZ h1;obtain⟨⟨v2,hb2,ht2⟩,hO⟩:=hr2;have c:w2.cell? ⟨b,14,none⟩=some y.t:=hb2.cell 14;have f:=hb2.frozen 14;obtain⟨au,cu,rfl, -,-⟩:=TSl.form hp;have HS:=hZ (hb2.setOk ht2 12 (.slice au x.length cu));have HP:=hZ (hp.kp (hb2.kpx HS.o.2) (by decide));have HY:=hZ ((HY0.o.kr (HR0.o.kpx hO)).kr (hb2.kpx HS.o.2));have HO:=hZ hO;clear hb2 ht2 h1 hO hp
 go_wp2_with fail
 go_end0
 exact .inl ⟨{ d with take:=x },l2,_,by unfold pFg;rw[HT.o],rfl,⟨{ y with t:=.slice au x.length cu },rfl,HP.o,HY.o.g,HY.o.b,HY.o.r,HY.o.x⟩,qBk HS.o HO.o⟩
theorem qJH(b N:Nat)(cs:List Value)(d:Dc)(l:List Tok)(w:World)(hr:Rdr w b N l cs)(hd:DPar w cs d)(hl:l.length<=100000):
 Calls Tryz.prog 33 #[.pointer (some ⟨b,0,none⟩)] w (qBs b N (pFg .give d l) w):=by
 obtain⟨y,rfl,hy⟩:=hd;obtain⟨v,hb,ht⟩:=hr;have HY0:=hZ hy;have HC:=hZ (qD6 b N _ l w ⟨v,hb,ht⟩ hl);have HR0:Hid (Rdr w b N l _):=hZ ⟨v,hb,ht⟩;clear hb ht hy
 go_enter Tryz.func33,Tryz.ntmps33
 go_wp2_with fail
 refine HC.o.mono ?_;rintro e w2 (⟨x,l2,u,h1,rfl,hp,hr2⟩|⟨z,h1,rfl,hr2⟩);rotate_left
 ·have HT:=hZ h1
  have HB:=hZ hr2;clear hr2 h1
  go_wp2_with fail
  exact⟨rfl,.inr ⟨z,by unfold pFg;rw[HT.o],rfl,HB.o⟩⟩
 have HT:=hZ h1;obtain⟨⟨v2,hb2,ht2⟩,hO⟩:=hr2;have c:w2.cell? ⟨b,15,none⟩=some y.g:=hb2.cell 15;have f:=hb2.frozen 15;obtain⟨au,cu,rfl, -,-⟩:=TSl.form hp;have HS:=hZ (hb2.setOk ht2 13 (.slice au x.length cu));have HP:=hZ (hp.kp (hb2.kpx HS.o.2) (by decide));have HY:=hZ ((HY0.o.kr (HR0.o.kpx hO)).kr (hb2.kpx HS.o.2));have HO:=hZ hO;clear hb2 ht2 h1 hO hp
 go_wp2_with fail
 go_end0
 exact .inl ⟨{ d with give:=x },l2,_,by unfold pFg;rw[HT.o],rfl,⟨{ y with g:=.slice au x.length cu },rfl,HY.o.t,HP.o,HY.o.b,HY.o.r,HY.o.x⟩,qBk HS.o HO.o⟩
theorem qJT(b N:Nat)(cs:List Value)(d:Dc)(l:List Tok)(w:World)(hr:Rdr w b N l cs)(hd:DPar w cs d)(hl:l.length<=100000):
 Calls Tryz.prog 34 #[.pointer (some ⟨b,0,none⟩)] w (qBs b N (pFg .back d l) w):=by
 obtain⟨y,rfl,hy⟩:=hd;obtain⟨v,hb,ht⟩:=hr;have HY0:=hZ hy;have HC:=hZ (qD6 b N _ l w ⟨v,hb,ht⟩ hl);have HR0:Hid (Rdr w b N l _):=hZ ⟨v,hb,ht⟩;clear hb ht hy
 go_enter Tryz.func34,Tryz.ntmps34
 go_wp2_with fail
 refine HC.o.mono ?_;rintro e w2 (⟨x,l2,u,h1,rfl,hp,hr2⟩|⟨z,h1,rfl,hr2⟩);rotate_left
 ·have HT:=hZ h1
  have HB:=hZ hr2;clear hr2 h1
  go_wp2_with fail
  exact⟨rfl,.inr ⟨z,by unfold pFg;rw[HT.o],rfl,HB.o⟩⟩
 have HT:=hZ h1;obtain⟨⟨v2,hb2,ht2⟩,hO⟩:=hr2;have c:w2.cell? ⟨b,16,none⟩=some y.b:=hb2.cell 16;have f:=hb2.frozen 16;obtain⟨au,cu,rfl, -,-⟩:=TSl.form hp;have HS:=hZ (hb2.setOk ht2 14 (.slice au x.length cu));have HP:=hZ (hp.kp (hb2.kpx HS.o.2) (by decide));have HY:=hZ ((HY0.o.kr (HR0.o.kpx hO)).kr (hb2.kpx HS.o.2));have HO:=hZ hO;clear hb2 ht2 h1 hO hp
 go_wp2_with fail
 go_end0
 exact .inl ⟨{ d with back:=x },l2,_,by unfold pFg;rw[HT.o],rfl,⟨{ y with b:=.slice au x.length cu },rfl,HY.o.t,HY.o.g,HP.o,HY.o.r,HY.o.x⟩,qBk HS.o HO.o⟩
theorem qJS(b N:Nat)(cs:List Value)(d:Dc)(l:List Tok)(w:World)(hr:Rdr w b N l cs)(hd:DPar w cs d)(hl:l.length<=100000):
 Calls Tryz.prog 28 #[.pointer (some ⟨b,0,none⟩)] w (qBs b N (pFg .bind d l) w):=by
 obtain⟨y,rfl,hy⟩:=hd;obtain⟨v,hb,ht⟩:=hr;have c:w.cell? ⟨b,9,none⟩=some (.int .i64 d.bind):=hb.cell 9;have f:=hb.frozen 9;obtain⟨w1,hw1⟩:=eX (w.setCell ⟨b,9,none⟩ (.int .i64 1));have hs:=hb.setOk ht 7 (.int .i64 1);rw[show(7+2:Nat)=9 from rfl,hw1]at hs;have HY1:=hZ (hy.kr (hb.kpx hs.2));have HO1:=hZ hs.2;obtain⟨⟨v1,hb1,ht1⟩,-⟩:=hs;have HU:=hZ (qEv b N v1 _ l 0 qGM w1 hb1 ht1);have HG:=hZ (qEv b N v1 _ l 0 qHP w1 hb1 ht1);have HF:=hZ (qD9 b N v1 _ l w1 hb1 ht1);have HN:=hZ (qAU b N v1 _ l 0 [] w1 hb1 ht1);have c1:w1.cell? ⟨b,9,none⟩=some (.int .i64 1):=hb1.cell 9;have f1:=hb1.frozen 9;have HR1:Hid (Rdr w1 b N l _):=hZ ⟨v1,hb1,ht1⟩;clear hy;have word:∀s:Bs,s≠[]->isT 0 s l=true->∃t,qAL 0 [] l=.ok (t,l.drop 1):=by
  intro s hs h;cases l with
  |nil=>cases h
  |cons t l=>
   have h':t.is 0 s=true:=h;have h2:t.is 0 []=true:=by
    unfold Tok.is at h' ⊢;simp at h' ⊢;exact h'.1
   exact⟨t,by simp only[qAL,if_pos h2,List.drop_succ_cons,List.drop_zero]⟩
 by_cases hu:isT 0 qGM l=true
 ·obtain⟨w2,hw2⟩:=eX (w1.setCell ⟨b,9,none⟩ (.int .i64 2))
  have hs:=hb1.setOk ht1 7 (.int .i64 2);rw[show(7+2:Nat)=9 from rfl,hw2]at hs;have HY2:=hZ (HY1.o.kr (hb1.kpx hs.2));have HO2:=hZ (HO1.o.trans hs.2);obtain⟨⟨v2,hb2,ht2⟩,-⟩:=hs;have HN2:=hZ (qAU b N v2 _ l 0 [] w2 hb2 ht2);have HR2:Hid (Rdr w2 b N l _):=hZ ⟨v2,hb2,ht2⟩;obtain⟨t,hT⟩:=word qGM (by decide) hu;have HT:=hZ hT;rw[hu]at HU;have Hu:=hZ hu;clear hb ht hb1 ht1 hb2 ht2 hT word HN HG HF hu
  go_enter Tryz.func28,Tryz.ntmps28
  go_wp2_with fail
  refine HU.o.mono ?_;rintro e w' ⟨rfl,rfl⟩
  go_wp2_with fail
  refine HN2.o.mono ?_;rintro e w3 (⟨t3,l3,h1,rfl,hr3⟩|⟨z,h1,rfl,hr3⟩);rotate_left
  ·rw[HT.o]at h1;cases h1
  rw[HT.o]at h1;injection h1 with h1;injection h1 with h1 h2;subst h1 h2;have H3:=hZ hr3;clear hr3;unfold qE9
  go_wp2_with fail
  go_end0
  refine .inl ⟨{ d with bind:=2 },_,_,by unfold pFg;simp only[Hu.o,if_true],rfl,⟨y,rfl,?_⟩,qBk H3.o HO2.o⟩;have HY:=hZ (HY2.o.kr (HR2.o.kpx H3.o.2));exact⟨HY.o.t,HY.o.g,HY.o.b,HY.o.r,HY.o.x⟩
 rw[Bool.not_eq_true]at hu;rw[hu]at HU;by_cases hg:isT 0 qHP l=true
 ·obtain⟨t,hT⟩:=word qHP (by decide) hg
  have HT:=hZ hT;rw[hg]at HG;have Hu:=hZ hu;have Hg:=hZ hg;clear hb ht hb1 ht1 hT word HF hu hg
  go_enter Tryz.func28,Tryz.ntmps28
  go_wp2_with fail
  refine HU.o.mono ?_;rintro e w' ⟨rfl,rfl⟩
  go_wp2_with fail
  refine HG.o.mono ?_;rintro e w' ⟨rfl,rfl⟩
  go_wp2_with fail
  refine HN.o.mono ?_;rintro e w3 (⟨t3,l3,h1,rfl,hr3⟩|⟨z,h1,rfl,hr3⟩);rotate_left
  ·rw[HT.o]at h1;cases h1
  rw[HT.o]at h1;injection h1 with h1;injection h1 with h1 h2;subst h1 h2;have H3:=hZ hr3;clear hr3;unfold qE9
  go_wp2_with fail
  go_end0
  refine .inl ⟨{ d with bind:=1 },_,_,by unfold pFg;simp only[Hu.o,Hg.o,if_true];rfl,rfl,⟨y,rfl,?_⟩,qBk H3.o HO1.o⟩;have HY:=hZ (HY1.o.kr (HR1.o.kpx H3.o.2));exact⟨HY.o.t,HY.o.g,HY.o.b,HY.o.r,HY.o.x⟩
 rw[Bool.not_eq_true]at hg;rw[hg]at HG;have Hu:=hZ hu;have Hg:=hZ hg;clear hb ht hb1 ht1 word hu hg
 go_enter Tryz.func28,Tryz.ntmps28
 go_wp2_with fail
 refine HU.o.mono ?_;rintro e w' ⟨rfl,rfl⟩
 go_wp2_with fail
 refine HG.o.mono ?_;rintro e w' ⟨rfl,rfl⟩
 go_wp2_with fail
 refine HF.o.mono ?_;rintro e w' ⟨rfl,rfl⟩
 go_wp2_with fail
 exact⟨rfl,.inr ⟨l,by unfold pFg;simp only[Hu.o,Hg.o];rfl,rfl,HO1.o⟩⟩
theorem qHL(b N:Nat)(cs:List Value)(d:Dc)(l:List Tok)(w:World)(hr:Rdr w b N l cs)(hd:DPar w cs d)(hl:l.length<=100000):
 Calls Tryz.prog 31 #[.pointer (some ⟨b,0,none⟩)] w (qBs b N (pFg .chance d l) w):=by
 obtain⟨y,rfl,hy⟩:=hd;obtain⟨v,hb,ht⟩:=hr;have HY0:=hZ hy;have HC:=hZ (qBd b N v _ l w hb ht);have HR0:Hid (Rdr w b N l _):=hZ ⟨v,hb,ht⟩;clear hb ht hy
 go_enter Tryz.func31,Tryz.ntmps31
 go_wp2_with fail
 refine HC.o.mono ?_;rintro e w2 (⟨n,l2,h1,rfl,hr2⟩|⟨z,h1,rfl,hr2⟩);rotate_left
 ·have HT:=hZ h1
  have HB:=hZ hr2;clear hr2 h1
  go_wp2_with fail
  exact⟨rfl,.inr ⟨z,by unfold pFg;rw[HT.o],rfl,HB.o⟩⟩
 have HT:=hZ h1;obtain⟨⟨v2,hb2,ht2⟩,hO⟩:=hr2;have c:w2.cell? ⟨b,12,none⟩=some (.int .i64 d.chance):=hb2.cell 12;have f:=hb2.frozen 12;obtain⟨w3,hw3⟩:=eX (w2.setCell ⟨b,12,none⟩ (.int .i64 n));have hs:=hb2.setOk ht2 10 (.int .i64 n);rw[show(10+2:Nat)=12 from rfl,hw3]at hs;have HY3:=hZ ((HY0.o.kr (HR0.o.kpx hO)).kr (hb2.kpx hs.2));have HO3:=hZ (hO.trans hs.2);obtain⟨⟨v3,hb3,ht3⟩,-⟩:=hs;have HR3:Hid (Rdr w3 b N l2 _):=hZ ⟨v3,hb3,ht3⟩;have HC3:=hZ (qAU b N v3 _ l2 0 wOf w3 hb3 ht3);clear hb2 ht2 h1 hO hb3 ht3
 go_wp2_with fail
 refine HC3.o.mono ?_;rintro e w4 (⟨t4,l4,h1,rfl,hr4⟩|⟨z,h1,rfl,hr4⟩);rotate_left
 ·have HT4:=hZ h1
  have HB:=hZ (HO3.o.trans hr4);clear hr4 h1
  go_wp2_with fail
  exact⟨rfl,.inr ⟨z,by unfold pFg;simp only[HT.o,HT4.o],rfl,HB.o⟩⟩
 have HT4:=hZ h1;have HY4:=hZ (HY3.o.kr (HR3.o.kpx hr4.2));have HO4:=hZ (HO3.o.trans hr4.2);obtain⟨⟨v4,hb4,ht4⟩,-⟩:=hr4;have HR4:Hid (Rdr w4 b N l4 _):=hZ ⟨v4,hb4,ht4⟩;have HC4:=hZ (qBd b N v4 _ l4 w4 hb4 ht4);clear hb4 ht4 h1 hw3 c f;unfold qE9
 go_wp2_with fail
 refine HC4.o.mono ?_;rintro e w5 (⟨m,l5,h1,rfl,hr5⟩|⟨z,h1,rfl,hr5⟩);rotate_left
 ·have HT5:=hZ h1
  have HB:=hZ (HO4.o.trans hr5);clear hr5 h1
  go_wp2_with fail
  exact⟨rfl,.inr ⟨z,by unfold pFg;simp only[HT.o,HT4.o,HT5.o],rfl,HB.o⟩⟩
 have HT5:=hZ h1;obtain⟨⟨v5,hb5,ht5⟩,hO⟩:=hr5;have c:w5.cell? ⟨b,13,none⟩=some (.int .i64 d.of_):=hb5.cell 13;have f:=hb5.frozen 13;have HS:=hZ (hb5.setOk ht5 11 (.int .i64 m));have HY:=hZ ((HY4.o.kr (HR4.o.kpx hO)).kr (hb5.kpx HS.o.2));have HO:=hZ (HO4.o.trans hO);clear hb5 ht5 h1 hO
 go_wp2_with fail
 go_end0
 exact .inl ⟨{ d with chance:=n,of_:=m },l5,_,by unfold pFg;simp only[HT.o,HT4.o,HT5.o],rfl,⟨y,rfl,HY.o.t,HY.o.g,HY.o.b,HY.o.r,HY.o.x⟩,qBk HS.o HO.o⟩
def QB(w:World)(b:Nat)(s:ByteArray)(v:Value)(i:Nat)(bad:Bool):Prop:=w.heap[b]? =some (.cells #[.string s,v,.int .i64 i,.bool bad] 78 (0,0))
theorem QB.lt{w:World}{b:Nat}{s:ByteArray}{v:Value}{i:Nat}{bad:Bool}(h:QB w b s v i bad):b<w.heap.size:=qAn h
theorem QB.cell{w:World}{b:Nat}{s:ByteArray}{v:Value}{i:Nat}{bad:Bool}(h:QB w b s v i bad)(j:Nat):w.cell? ⟨b,j,none⟩=[Value.string s,v,.int .i64 i,.bool bad][j]? :=by
 rw[cell_of_row w b j _ _ (0,0) h];simp
theorem QB.frozen{w:World}{b:Nat}{s:ByteArray}{v:Value}{i:Nat}{bad:Bool}(h:QB w b s v i bad)(j:Nat):w.frozen? ⟨b,j,none⟩=false:=by
 unfold QB at h;simp[World.frozen?,h]
theorem QB.setI{w:World}{b:Nat}{s:ByteArray}{v:Value}{i:Nat}{bad:Bool}(h:QB w b s v i bad)(j:Nat):QB (w.setCell ⟨b,2,none⟩ (.int .i64 j)) b s v j bad:=by
 unfold QB at h ⊢;simp[World.setCell,Array.getElem?_modify,h]
theorem QB.setBad{w:World}{b:Nat}{s:ByteArray}{v:Value}{i:Nat}{bad:Bool}(h:QB w b s v i bad):QB (w.setCell ⟨b,3,none⟩ (.bool true)) b s v i true:=by
 unfold QB at h ⊢;simp[World.setCell,Array.getElem?_modify,h]
def QS(w:World)(b:Nat)(s:ByteArray)(T:List Tok)(z:List Tok)(bad:Bool):Prop:=∃v i,QB w b s v i bad/\qDB 80 w v T/\i<=T.length/\z=T.drop i/\T.length<=100000
theorem QS.kp{X:List TypeId}{w w':World}{b:Nat}{s:ByteArray}{T z:List Tok}{bad:Bool}(h:QS w b s T z bad)(hk:KpX X w w')(h1:78∉X)(h2:80∉X):QS w' b s T z bad:=by
 obtain⟨v,i,h3,h4,h5⟩:=h;exact⟨v,i,hk _ _ b h1 h3,h4.kp hk h2,h5⟩
theorem QS.below{w w':World}{b:Nat}{s:ByteArray}{T z:List Tok}{bad:Bool}(h:QS w b s T z bad)(hb:Below w.heap.size w w'):QS w' b s T z bad:=h.kp (KpX.of_below (X:=[]) hb) (by simp) (by simp)
theorem QS.lt{w:World}{b:Nat}{s:ByteArray}{T z:List Tok}{bad:Bool}(h:QS w b s T z bad):b<w.heap.size:=by
 obtain⟨v,i,h3,-⟩:=h;exact h3.lt
theorem QS.kpx{w w':World}{b:Nat}{s:ByteArray}{T z:List Tok}{bad:Bool}(h:QS w b s T z bad)(ho:qAf (fun k=>k=b) w w'):KpX [78] w w':=by
 obtain⟨v,i,h3,-⟩:=h;exact KpX.of_only ho (fun c hc e cs hh=>by
  subst hc;unfold QB at h3;rw[h3]at hh;injection hh with hh;injection hh with _ hh;simp[hh])
theorem QS.len{w:World}{b:Nat}{s:ByteArray}{T z:List Tok}{bad:Bool}(h:QS w b s T z bad):z.length<=100000:=by
 obtain⟨v,i, -, -, -,rfl,h⟩:=h;simp;omega
def isX(s:Bs):List Tok->Bool
 |[]=>false
 |t::_=>t.text==s
def qEM(k:Int):List Tok->Bool
 |[]=>false
 |t::_=>t.kind==k
theorem QS.at_{w:World}{b:Nat}{s:ByteArray}{T z:List Tok}{bad:Bool}(h:QS w b s T z bad):∃v i a cap,QB w b s v i bad/\qDB 80 w v T/\v=.slice a T.length cap/\i<=T.length/\z=T.drop i/\T.length<=100000:=by
 obtain⟨v,i,h1,h2,h3,h4,h5⟩:=h;obtain⟨a,cap,e, -,-⟩:=TSl.form h2;exact⟨v,i,a,cap,h1,h2,e,h3,h4,h5⟩
theorem qDB.nth{e:TypeId}{w:World}{v:Value}{T:List Tok}(h:qDB e w v T)(i:Nat)(hi:i<T.length):∃g off cap,v=.slice (some ⟨g,off,none⟩) T.length cap/\T.length<=cap/\cap<=9223372036854775807/\g<w.heap.size/\
 w.cell? ⟨g,off+i*4,none⟩=some (.int .i64 T[i].kind)/\w.cell? ⟨g,off+i*4+1,none⟩=some (.string ⟨T[i].text.toArray⟩)/\w.cell? ⟨g,off+i*4+2,none⟩=some (.int .i64 T[i].n)/\w.cell? ⟨g,off+i*4+3,none⟩=some (.int .i64 T[i].at_):=by
 obtain⟨g,off,cap,es,hv,h1,h2,h3,rfl, -,hc⟩:=TSl.at_ h i hi;exact⟨g,off,cap,hv,h1,h2,h3,hc 0 (by omega),hc 1 (by omega),hc 2 (by omega),hc 3 (by omega)⟩
theorem qAt(w:World)(n:Nat):Below w.heap.size w (w.drewN n):=below_drewN (Below.refl _ _) n
theorem qJZ(b:Nat)(w:World)(o:Nat)(v:Value):qAf (fun k=>k=b) w (w.setCell ⟨b,o,none⟩ v):=(qAf.refl (fun k=>k=b) w).set (p:=⟨b,o,none⟩) rfl v
theorem qC8(b:Nat)(s:ByteArray)(T z:List Tok)(bad:Bool)(x:Bs)(w:World)(h:QS w b s T z bad):
 Calls Tryz.prog 64 #[.pointer (some ⟨b,0,none⟩),.string ⟨x.toArray⟩] w fun e w'=>e=.returned (.bool (!bad && isX x z))/\Below w.heap.size w w':=by
 obtain⟨v,i,a,cap,hb,ht,rfl,hi,rfl,hT⟩:=h.at_;have c1:w.cell? ⟨b,1,none⟩=some (.slice a T.length cap):=hb.cell 1;have c2:w.cell? ⟨b,2,none⟩=some (.int .i64 i):=hb.cell 2;have c3:w.cell? ⟨b,3,none⟩=some (.bool bad):=hb.cell 3;cases bad with
 |true=>
  clear hb ht h
  go_enter Tryz.func64,Tryz.ntmps64
  go_wp2_with fail
  go_region
  go_wp2_with fail
  go_ret;exact⟨rfl,qAt _ _⟩
 |false=>
 by_cases hlt:i<T.length
 ·skip
  obtain⟨g,off,cp,hv,k1,k2,hg,t0,t1,t2,t3⟩:=ht.nth i hlt;injection hv with hv _ hv2;subst hv hv2;have hE:Hid (isX x (T.drop i)=(T[i].text==x)):=hZ (by rw[List.drop_eq_getElem_cons hlt];rfl);have hn0:(0:Int)<=(i:Int):=by omega
  have hn1:(i:Int)<(T.length:Int):=by omega
  clear hb ht h;generalize T[i].text=tx at *;generalize T[i].kind=tk at *;generalize T[i].n=tn at *;generalize T[i].at_=ta at *
  go_enter Tryz.func64,Tryz.ntmps64
  go_wp2_with fail
  go_region
  go_wp2_with fail
  go_ret;refine⟨?_,qAt _ _⟩;rw[hE.o];rfl
 ·have hE:Hid (isX x (T.drop i)=false):=hZ (by rw[List.drop_of_length_le (by omega)];rfl)
  have hn1:¬(i:Int)<(T.length:Int):=by omega
  clear hb ht h
  go_enter Tryz.func64,Tryz.ntmps64
  go_wp2_with fail
  go_region
  go_wp2_with fail
  go_ret;refine⟨?_,qAt _ _⟩;rw[hE.o];rfl
theorem qCz(b:Nat)(s:ByteArray)(T z:List Tok)(bad:Bool)(k:Int)(w:World)(h:QS w b s T z bad):
 Calls Tryz.prog 84 #[.pointer (some ⟨b,0,none⟩),.int .i64 k] w fun e w'=>e=.returned (.bool (!bad && qEM k z))/\Below w.heap.size w w':=by
 obtain⟨v,i,a,cap,hb,ht,rfl,hi,rfl,hT⟩:=h.at_;have c1:w.cell? ⟨b,1,none⟩=some (.slice a T.length cap):=hb.cell 1;have c2:w.cell? ⟨b,2,none⟩=some (.int .i64 i):=hb.cell 2;have c3:w.cell? ⟨b,3,none⟩=some (.bool bad):=hb.cell 3;cases bad with
 |true=>
  clear hb ht h
  go_enter Tryz.func84,Tryz.ntmps84
  go_wp2_with fail
  go_region
  go_wp2_with fail
  go_ret;exact⟨rfl,qAt _ _⟩
 |false=>
 by_cases hlt:i<T.length
 ·skip
  obtain⟨g,off,cp,hv,k1,k2,hg,t0,t1,t2,t3⟩:=ht.nth i hlt;injection hv with hv _ hv2;subst hv hv2;have hE:Hid (qEM k (T.drop i)=(T[i].kind==k)):=hZ (by rw[List.drop_eq_getElem_cons hlt];rfl);have hn0:(0:Int)<=(i:Int):=by omega
  have hn1:(i:Int)<(T.length:Int):=by omega
  clear hb ht h;generalize T[i].text=tx at *;generalize T[i].kind=tk at *;generalize T[i].n=tn at *;generalize T[i].at_=ta at *
  go_enter Tryz.func84,Tryz.ntmps84
  go_wp2_with fail
  go_region
  go_wp2_with fail
  go_ret;refine⟨?_,qAt _ _⟩;rw[hE.o];rfl
 ·have hE:Hid (qEM k (T.drop i)=false):=hZ (by rw[List.drop_of_length_le (by omega)];rfl)
  have hn1:¬(i:Int)<(T.length:Int):=by omega
  clear hb ht h
  go_enter Tryz.func84,Tryz.ntmps84
  go_wp2_with fail
  go_region
  go_wp2_with fail
  go_ret;refine⟨?_,qAt _ _⟩;rw[hE.o];rfl
def QR{α:Type}(p:List Tok->Rd α)(bad:Bool)(z:List Tok)(x:Option α)(bad':Bool)(z':List Tok):Prop:=
 if bad then bad'=true/\z'=z/\x=none else match p z with|.ok (y,r)=>x=some y/\bad'=false/\z'=r|.error r=>bad'=true/\z'=r/\x=none
theorem QR.bad{α:Type}{p:List Tok->Rd α}{z:List Tok}:QR p true z none true z:=by unfold QR;simp
theorem QR.ok{α:Type}{p:List Tok->Rd α}{z r:List Tok}{x:α}(h:p z=.ok (x,r)):QR p false z (some x) false r:=by unfold QR;simp[h]
theorem QR.err{α:Type}{p:List Tok->Rd α}{z r:List Tok}(h:p z=.error r):QR p false z none true r:=by unfold QR;simp[h]
def QOk(w w':World)(b:Nat)(s:ByteArray)(T:List Tok)(z:List Tok)(bad:Bool):Prop:=QS w' b s T z bad/\qAf (fun k=>k=b) w w'
theorem QS.setBad{w:World}{b:Nat}{s:ByteArray}{T z:List Tok}{bad:Bool}(h:QS w b s T z bad):QOk w (w.setCell ⟨b,3,none⟩ (.bool true)) b s T z true:=by
 have hO:=qJZ b w 3 (.bool true);refine⟨?_,hO⟩;have hk:=h.kpx hO;obtain⟨v,i,h1,h2,h3⟩:=h;exact⟨v,i,h1.setBad,h2.kp hk (by decide),h3⟩
theorem QS.next{w:World}{b:Nat}{s:ByteArray}{T:List Tok}{bad:Bool}{v:Value}{i:Nat}(h1:QB w b s v i bad)(h2:qDB 80 w v T)(hi:i<T.length)(hT:T.length<=100000):
 QOk w (w.setCell ⟨b,2,none⟩ (.int .i64 ((i:Nat)+1))) b s T (T.drop (i+1)) bad:=by
 have h:QS w b s T (T.drop i) bad:=⟨v,i,h1,h2,by omega,rfl,hT⟩;have hO:=qJZ b w 2 (.int .i64 ((i:Nat)+1));have hk:=h.kpx hO;exact⟨⟨v,i+1,h1.setI (i+1),h2.kp hk (by decide),by omega,rfl,hT⟩,hO⟩
theorem QOk.under{w w1 w':World}{b:Nat}{s:ByteArray}{T z:List Tok}{bad:Bool}(h:QOk w1 w' b s T z bad)(hb:Below w.heap.size w w1):QOk w w' b s T z bad:=⟨h.1,(qAf.of_below hb).trans h.2⟩
theorem QOk.after{w w1 w':World}{b:Nat}{s:ByteArray}{T z:List Tok}{bad:Bool}(h:QOk w w1 b s T z bad)(hb:Below w1.heap.size w1 w'):QOk w w' b s T z bad:=⟨h.1.below hb,h.2.trans (qAf.of_below hb)⟩
theorem QOk.trans{w w1 w':World}{b:Nat}{s:ByteArray}{T z z':List Tok}{bad bad':Bool}(h:QOk w w1 b s T z bad)(h':QOk w1 w' b s T z' bad'):QOk w w' b s T z' bad':=⟨h'.1,h.2.trans h'.2⟩
theorem QS.ok{w:World}{b:Nat}{s:ByteArray}{T z:List Tok}{bad:Bool}(h:QS w b s T z bad):QOk w w b s T z bad:=⟨h,qAf.refl _ _⟩
def pX(x:Bs):List Tok->Rd Unit
 |[]=> .error []
 |t::r=>if t.text==x then .ok ((),r)else .error (t::r)
theorem qEJ(x:Bs)(z:List Tok):pX x z=if isX x z then .ok ((),z.drop 1)else .error z:=by
 cases z with
 |nil=>rfl
 |cons t r=>rfl
theorem qAX(b:Nat)(s:ByteArray)(T z:List Tok)(bad:Bool)(x:Bs)(w:World)(h:QS w b s T z bad):
 Calls Tryz.prog 65 #[.pointer (some ⟨b,0,none⟩),.string ⟨x.toArray⟩] w fun e w'=>∃u z' bad',e=.returned (.tuple #[])/\QR (pX x) bad z u bad' z'/\QOk w w' b s T z' bad':=by
 have HI:=hZ (qC8 b s T z bad x w h);have HS:=hZ h;have hX:=qEJ x z;by_cases hi:(!bad && isX x z)=true
 ·rw[hi]at HI
  obtain⟨rfl,hix⟩:bad=false/\isX x z=true:=by simpa using hi
  rw[if_pos hix]at hX;have HX:=hZ hX;have Hix:=hZ hix;clear h hi hX hix
  go_enter Tryz.func65,Tryz.ntmps65
  go_wp2_with fail
  refine HI.o.mono ?_;rintro e w1 ⟨rfl,hB1⟩;have HS1:=hZ (HS.o.below hB1);have HB1:=hZ hB1;obtain⟨v,i,a,cap,hb,ht,hv,hil,hz,hT⟩:=HS1.o.at_;subst hv;have c2:w1.cell? ⟨b,2,none⟩=some (.int .i64 i):=hb.cell 2;have f2:=hb.frozen 2;have hlt:i<T.length:=by
   rcases Nat.lt_or_ge i T.length with h|h
   ·exact h
   ·have:=Hix.o
    rw[hz,List.drop_of_length_le h]at this;cases this
  have HN:=hZ (QS.next hb ht hlt hT);have Hz:=hZ hz;have hw:IntKind.i64.wrap ((i:Int)+1)=(i:Int)+1:=IntWalk.i64_in _ (by omega);clear hB1 hb ht hz
  go_wp2_with fail
  go_end0
  refine⟨some (),T.drop (i+1),false,rfl,QR.ok (by rw[HX.o,Hz.o,List.drop_drop]),HN.o.under HB1.o⟩
 ·rw[Bool.not_eq_true]at hi
  rw[hi]at HI;have HX:=hZ hX;have Hi:=hZ hi;clear h hX hi
  go_enter Tryz.func65,Tryz.ntmps65
  go_wp2_with fail
  refine HI.o.mono ?_;rintro e w1 ⟨rfl,hB1⟩;have HS1:=hZ (HS.o.below hB1);have HB1:=hZ hB1;obtain⟨v,i,a,cap,hb,ht,hv,hil,hz,hT⟩:=HS1.o.at_;have c3:w1.cell? ⟨b,3,none⟩=some (.bool bad):=hb.cell 3;have f3:=hb.frozen 3;clear hB1 hb ht hz
  go_wp2_with fail
  refine bodyPost_ret (results_none rfl _ _ _) rfl ?_;refine⟨none,z,true,rfl,?_,HS1.o.setBad.under HB1.o⟩;cases bad with
  |true=>exact QR.bad
  |false=>
   have h9:isX x z=false:=by simpa using Hi.o
   exact QR.err (by rw[HX.o,h9];rfl)
def qHA(u:Option Int):Value:=.int .i64 (u.getD 0)
def qLp(u:Option (Bs×Int)):Value:=.tuple #[.string ⟨((u.map (·.1)).getD []).toArray⟩,.int .i64 ((u.map (·.2)).getD 0)]
def qJX(l:List Tok):Rd (Bs×Int):=match qAL 0 [] l with|.error z=> .error z|.ok (t,r)=> .ok ((t.text,t.at_),r)
theorem qAQ(b:Nat)(s:ByteArray)(T z:List Tok)(bad:Bool)(w:World)(h:QS w b s T z bad):
 Calls Tryz.prog 86 #[.pointer (some ⟨b,0,none⟩)] w fun e w'=>∃u z' bad',e=.returned (qHA u)/\QR (qAP) bad z u bad' z'/\QOk w w' b s T z' bad':=by
 have HI:=hZ (qCz b s T z bad 1 w h);have HS:=hZ h;by_cases hi:(!bad && qEM 1 z)=true
 ·rw[hi]at HI
  obtain⟨rfl,hix⟩:bad=false/\qEM 1 z=true:=by simpa using hi
  have Hix:=hZ hix;clear h hi hix
  go_enter Tryz.func86,Tryz.ntmps86
  go_wp2_with fail
  refine HI.o.mono ?_;rintro e w1 ⟨rfl,hB1⟩;have HS1:=hZ (HS.o.below hB1);have HB1:=hZ hB1;obtain⟨v,i,a,cap,hb,ht,hv,hil,hz,hT⟩:=HS1.o.at_;subst hv;have hlt:i<T.length:=by
   rcases Nat.lt_or_ge i T.length with h|h
   ·exact h
   ·have:=Hix.o
    rw[hz,List.drop_of_length_le h]at this;cases this
  have c2:w1.cell? ⟨b,2,none⟩=some (.int .i64 i):=hb.cell 2;have f2:=hb.frozen 2;have HN:=QS.next hb ht hlt hT;obtain⟨w2,hw2⟩:=eX (w1.setCell ⟨b,2,none⟩ (.int .i64 ((i:Nat)+1)));rw[hw2]at HN;obtain⟨v2,i2,a2,cap2,hb2,ht2,hv2,hil2,hz2,-⟩:=HN.1.at_;subst hv2;have hi2:i2=i+1:=by
   have:=congrArg List.length hz2;simp at this;omega
  subst hi2;obtain⟨g,off,cp,hv,k1,k2,hg,t0,t1,t2,t3⟩:=ht2.nth i hlt;injection hv with hv _ hv2;subst hv hv2;have d1:w2.cell? ⟨b,1,none⟩=some (.slice (some ⟨g,off,none⟩) T.length cap2):=hb2.cell 1;have d2:w2.cell? ⟨b,2,none⟩=some (.int .i64 ((i+1:Nat):Int)):=hb2.cell 2;rw[Int.natCast_add,Int.natCast_one]at d2;have hE:Hid ((qAP) z=.ok (T[i].n,T.drop (i+1))):=hZ (by
   have h9:=Hix.o;rw[hz,List.drop_eq_getElem_cons hlt]at h9 ⊢;have h8:T[i].is 1 []=true:=by
    have h7:(T[i].kind==1)=true:=h9;unfold Tok.is;rw[h7];rfl
   unfold qAP;simp only[qAL,if_pos h8])
  have hw:IntKind.i64.wrap ((i:Int)+1)=(i:Int)+1:=IntWalk.i64_in _ (by omega);have hw1:IntKind.i64.wrap ((i:Int)+1-1)=(i:Int):=by rw[IntWalk.i64_in _ (by omega)];omega
  have hn0:(0:Int)<=(i:Int):=by omega
  have hn1:(i:Int)<(T.length:Int):=by omega
  have HN2:=hZ HN;clear hB1 hb ht hz HN hb2 ht2 hz2;generalize T[i].text=tx at *;generalize T[i].kind=tk at *;generalize T[i].n=tn at *;generalize T[i].at_=ta at *
  go_wp2_with fail
  go_region
  go_wp2_with fail
  go_ret;exact⟨some tn,T.drop (i+1),false,rfl,QR.ok hE.o,(HN2.o.after (qAt _ _)).under HB1.o⟩
 ·rw[Bool.not_eq_true]at hi
  rw[hi]at HI;have Hi:=hZ hi;clear h hi
  go_enter Tryz.func86,Tryz.ntmps86
  go_wp2_with fail
  refine HI.o.mono ?_;rintro e w1 ⟨rfl,hB1⟩;have HS1:=hZ (HS.o.below hB1);have HB1:=hZ hB1;obtain⟨v,i,a,cap,hb,ht,hv,hil,hz,hT⟩:=HS1.o.at_;have c3:w1.cell? ⟨b,3,none⟩=some (.bool bad):=hb.cell 3;have f3:=hb.frozen 3;clear hB1 hb ht hz
  go_wp2_with fail
  go_ret;refine⟨none,z,true,rfl,?_,HS1.o.setBad.under HB1.o⟩;cases bad with
  |true=>exact QR.bad
  |false=>
   have h9:qEM 1 z=false:=by simpa using Hi.o
   refine QR.err ?_;cases z with
   |nil=>rfl
   |cons t r=>
    have h8:t.is 1 []=false:=by
     have h7:(t.kind==1)=false:=h9;unfold Tok.is;rw[h7];rfl
    unfold qAP;simp only[qAL,h8];rfl
theorem qFQ(b:Nat)(s:ByteArray)(T z:List Tok)(bad:Bool)(w:World)(h:QS w b s T z bad):
 Calls Tryz.prog 66 #[.pointer (some ⟨b,0,none⟩)] w fun e w'=>∃u z' bad',e=.returned (qLp u)/\QR (qJX) bad z u bad' z'/\QOk w w' b s T z' bad':=by
 have HI:=hZ (qCz b s T z bad 0 w h);have HS:=hZ h;by_cases hi:(!bad && qEM 0 z)=true
 ·rw[hi]at HI
  obtain⟨rfl,hix⟩:bad=false/\qEM 0 z=true:=by simpa using hi
  have Hix:=hZ hix;clear h hi hix
  go_enter Tryz.func66,Tryz.ntmps66
  go_wp2_with fail
  refine HI.o.mono ?_;rintro e w1 ⟨rfl,hB1⟩;have HS1:=hZ (HS.o.below hB1);have HB1:=hZ hB1;obtain⟨v,i,a,cap,hb,ht,hv,hil,hz,hT⟩:=HS1.o.at_;subst hv;have hlt:i<T.length:=by
   rcases Nat.lt_or_ge i T.length with h|h
   ·exact h
   ·have:=Hix.o
    rw[hz,List.drop_of_length_le h]at this;cases this
  have c2:w1.cell? ⟨b,2,none⟩=some (.int .i64 i):=hb.cell 2;have f2:=hb.frozen 2;have HN:=QS.next hb ht hlt hT;obtain⟨w2,hw2⟩:=eX (w1.setCell ⟨b,2,none⟩ (.int .i64 ((i:Nat)+1)));rw[hw2]at HN;obtain⟨v2,i2,a2,cap2,hb2,ht2,hv2,hil2,hz2,-⟩:=HN.1.at_;subst hv2;have hi2:i2=i+1:=by
   have:=congrArg List.length hz2;simp at this;omega
  subst hi2;obtain⟨g,off,cp,hv,k1,k2,hg,t0,t1,t2,t3⟩:=ht2.nth i hlt;injection hv with hv _ hv2;subst hv hv2;have d1:w2.cell? ⟨b,1,none⟩=some (.slice (some ⟨g,off,none⟩) T.length cap2):=hb2.cell 1;have d2:w2.cell? ⟨b,2,none⟩=some (.int .i64 ((i+1:Nat):Int)):=hb2.cell 2;rw[Int.natCast_add,Int.natCast_one]at d2;have hE:Hid ((qJX) z=.ok ((T[i].text,(T[i].at_:Int)),T.drop (i+1))):=hZ (by
   have h9:=Hix.o;rw[hz,List.drop_eq_getElem_cons hlt]at h9 ⊢;have h8:T[i].is 0 []=true:=by
    have h7:(T[i].kind==0)=true:=h9;unfold Tok.is;rw[h7];rfl
   unfold qJX;simp only[qAL,if_pos h8])
  have hw:IntKind.i64.wrap ((i:Int)+1)=(i:Int)+1:=IntWalk.i64_in _ (by omega);have hw1:IntKind.i64.wrap ((i:Int)+1-1)=(i:Int):=by rw[IntWalk.i64_in _ (by omega)];omega
  have hn0:(0:Int)<=(i:Int):=by omega
  have hn1:(i:Int)<(T.length:Int):=by omega
  have HN2:=hZ HN;clear hB1 hb ht hz HN hb2 ht2 hz2;generalize T[i].text=tx at *;generalize T[i].kind=tk at *;generalize T[i].n=tn at *;generalize T[i].at_=ta at *
  go_wp2_with fail
  go_region
  go_wp2_with fail
  refine bodyPost_ret (v:=.tuple #[.string ⟨tx.toArray⟩,.int .i64 (ta:Int)]) (by simp[results,Tryz.results66,go_sem]) rfl ?_;exact⟨some (tx,(ta:Int)),T.drop (i+1),false,rfl,QR.ok hE.o,(HN2.o.after (qAt _ _)).under HB1.o⟩
 ·rw[Bool.not_eq_true]at hi
  rw[hi]at HI;have Hi:=hZ hi;clear h hi
  go_enter Tryz.func66,Tryz.ntmps66
  go_wp2_with fail
  refine HI.o.mono ?_;rintro e w1 ⟨rfl,hB1⟩;have HS1:=hZ (HS.o.below hB1);have HB1:=hZ hB1;obtain⟨v,i,a,cap,hb,ht,hv,hil,hz,hT⟩:=HS1.o.at_;have c3:w1.cell? ⟨b,3,none⟩=some (.bool bad):=hb.cell 3;have f3:=hb.frozen 3;clear hB1 hb ht hz
  go_wp2_with fail
  refine bodyPost_ret (v:=.tuple #[.string ⟨#[]⟩,.int .i64 0]) (by simp[results,Tryz.results66,go_sem]) rfl ?_;refine⟨none,z,true,rfl,?_,HS1.o.setBad.under HB1.o⟩;cases bad with
  |true=>exact QR.bad
  |false=>
   have h9:qEM 0 z=false:=by simpa using Hi.o
   refine QR.err ?_;cases z with
   |nil=>rfl
   |cons t r=>
    have h8:t.is 0 []=false:=by
     have h7:(t.kind==0)=false:=h9;unfold Tok.is;rw[h7];rfl
    unfold qJX;simp only[qAL,h8];rfl
end Go.Proofs.YtpmnbcdjoomgcaaGreatDoor
