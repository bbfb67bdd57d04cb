/- The reference's reader: a flag or part at most once. -/
import Derived.Test.YtpmnbcdjoomgcaaDoorQAGApp
import Derived.Deep.RegionHeld3
import Derived.IntWalk
set_option linter.unusedVariables false
set_option linter.unusedSimpArgs false
set_option maxHeartbeats 2000000
set_option maxRecDepth 100000
namespace Go.Proofs.YtpmnbcdjoomgcaaDoor
open Go.RowKit
def Rdr(w:World)(b N:Nat)(l:List Tok)(cs:List Value):Prop:=∃v,RdB w b v N cs/\qDG 55 w v l
theorem Rdr.kp{X:List TypeId}{w w':World}{b N:Nat}{l:List Tok}{cs:List Value}(h:Rdr w b N l cs)(hk:KpX X w w')(h1:96∉X)(h2:55∉X):Rdr w' b N l cs:=by
 obtain⟨v,h3,h4⟩:=h;exact⟨v,hk _ _ b h1 h3,h4.kp hk h2⟩
theorem Rdr.below{w w':World}{b N:Nat}{l:List Tok}{cs:List Value}(h:Rdr w b N l cs)(hb:Below w.heap.size w w'):Rdr w' b N l cs:=h.kp (KpX.of_below (X:=[]) hb) (by simp) (by simp)
theorem Rdr.lt{w:World}{b N:Nat}{l:List Tok}{cs:List Value}(h:Rdr w b N l cs):b<w.heap.size:=by
 obtain⟨v,h3,h4⟩:=h;exact h3.lt
theorem Rdr.kpx{w w':World}{b N:Nat}{l:List Tok}{cs:List Value}(h:Rdr w b N l cs)(ho:qAg (fun k=>k=b) w w'):KpX [96] w w':=by
 obtain⟨v,h3,h4⟩:=h;exact h3.kpx ho
theorem KpX.own{X:List TypeId}{w w':World}{base k n:Nat}{e:TypeId}{v:Value}{xs:List Value}(h:w.ownsRow base e k v n xs)(ho:qAg (fun b=>v.ownBlock=some b) w w')(he:e∈X):KpX X w w':=
 KpX.of_only ho (fun b hb t cs hc=>by
  rcases h.2 with ⟨hv,_⟩|⟨g,cap,cur,hv,_,hh,_⟩
  ·rw[hv]at hb;cases hb
  ·rw[hv]at hb
   injection hb with hb;subst hb;rw[hc]at hh;injection hh with hh;injection hh with _ hh;exact hh▸he)
def qGp(w:World)(b:Nat):Nat:=match w.cell? ⟨b,0,none⟩with|some (.slice _ n _)=>n|_=>0
theorem Rdr.len{w:World}{b N:Nat}{l:List Tok}{cs:List Value}(h:Rdr w b N l cs):qGp w b=l.length:=by
 obtain⟨v,h3,h4⟩:=h;obtain⟨a,cap,rfl,-⟩:=h4.form;have:w.cell? ⟨b,0,none⟩=some (.slice a l.length cap):=h3.cell 0;unfold qGp;rw[this]
def prC(p:Pr):List Value:=[.int .i64 p.n,.string ⟨p.name.toArray⟩,.int .i64 p.at_]
def qAD(e:TypeId)(w:World)(v:Value)(l:List Pr):Prop:=TSl e 3 (fun _ p cs=>cs=prC p) w v l
theorem qAD.kp{e:TypeId}{X:List TypeId}{w w':World}{v:Value}{l:List Pr}(h:qAD e w v l)(hk:KpX X w w')(he:e∉X):qAD e w' v l:=TSl.kp h hk he (fun _ _ h=>h)
theorem qAD.of_own{e:TypeId}{w:World}{base:Nat}{v:Value}{l:List Pr}(h:w.ownsRow base e 3 v l.length (l.flatMap prC)):qAD e w v l:=by
 refine TSl.of_own (css:=l.map prC) (base:=base) (n:=l.length) (by rw[<-List.flatMap_def];exact h) rfl (by simp[prC]) (by simp) ?_;intro j h1 h2;simp
theorem qJ1:qDT Tryd.prog 58 68 3 32:=qDT.mk (z:=.agg #[.int .i64 0,.string ⟨#[]⟩,.int .i64 0]) Tryd.underlying58 (by kernel_rfl) rfl (by decide)
def qH9{α:Type}(acc:List α)(x:Rd (List α)):Rd (List α):=match x with|.ok (y,z)=> .ok (acc++y,z)|.error z=> .error z
theorem qE3{α:Type}(x:Rd (List α)):qH9 [] x=x:=by
 cases x with
 |error z=>rfl
 |ok y=>rfl
theorem qDP{α:Type}(a b:List α)(x:Rd (List α)):qH9 a (qH9 b x)=qH9 (a++b) x:=by
 cases x with
 |error z=>rfl
 |ok y=>simp[qH9]
theorem qBu{l r:List Tok}{n:Int}(h:qBg l=.ok (n,r)):r.length+1=l.length:=by
 unfold qBg at h;cases h1:qAR 1 [] l with
 |error z=>rw[h1]at h;cases h
 |ok y=>
  obtain⟨t,l'⟩:=y;rw[h1]at h;cases h;exact qAu h1
theorem qE9(l:List Tok):qAE l=match qBg l with
 |.error z=> .error z
 |.ok (n,l2)=>match qAR 0 [] l2 with
  |.error z=> .error z
  |.ok (t,l3)=>if isT 2 [44] l3 then qH9 [⟨n,t.text,t.at_⟩] (qAE (l3.drop 1))else .ok ([⟨n,t.text,t.at_⟩],l3):=by
 cases l with
 |nil=>rfl
 |cons a l=>
  rw[qAE.eq_def];unfold qBg qAR;by_cases ha:a.is 1 []=true
  ·simp only[if_pos ha]
   cases l with
   |nil=>rfl
   |cons b l=>
    by_cases hb:b.is 0 []=true
    ·simp only[if_pos hb]
     cases l with
     |nil=>rfl
     |cons c l=>
      by_cases hc:c.is 2 [44]=true
      ·have hc2:isT 2 [44] (c::l)=true:=hc
       simp only[if_pos hc,if_pos hc2,List.drop_succ_cons,List.drop_zero];cases qAE l with
       |error z=>rfl
       |ok y=>rfl
      ·have hc2:¬isT 2 [44] (c::l)=true:=hc
       simp only[if_neg hc,if_neg hc2]
    ·simp only[if_neg hb]
  ·simp only[if_neg ha]
theorem qAg.behind{S:Nat->Prop}{w w' w2:World}(h:qAg S w w')(hb:Below w.heap.size w' w2):qAg S w w2:=
 ⟨hb.os.trans h.os,hb.tape.trans h.tape,hb.output.trans h.output,Nat.le_trans h.size hb.size,fun k hk hn=>(hb.block k hk).trans (h.block k hk hn)⟩
theorem qBc{b N:Nat}{w w' w2:World}{l:List Tok}{cs:List Value}(h:qGF b N w' w2 l cs)(ho:qAg (fun k=>k=b) w w'):qGF b N w w2 l cs:=⟨h.1,ho.trans h.2⟩
theorem qDQ(b N:Nat)(cs:List Value)(l:List Tok)(w:World)(hr:Rdr w b N l cs)(hl:l.length<=100000):
 Calls Tryd.prog 73 #[.pointer (some ⟨b,0,none⟩)] w fun e w'=>
  (∃x l' u,qAE l=.ok (x,l')/\e=.returned u/\qAD 68 w' u x/\qGF b N w w' l' cs)\/(∃z,qAE l=.error z/\qGG b N w w' z e):=by
 have HR:=hZ hr;have hlt:=hr.lt;have H0:=hZ hl;clear hr hl
 go_enter Tryd.func73,Tryd.ntmps73
 go_wp2_with fail
 go_loopw [3] (fun v wr=>∃(acc:List Pr) (l1:List Tok),Hid (qAE l=qH9 acc (qAE l1))/\Hid (acc.length+l1.length<=100000)/\Hid (Rdr wr b N l1 cs)/\Hid (wr.ownsRow w.heap.size 68 3 v acc.length (acc.flatMap prC))/\Hid (qAg (fun k=>k=b) w wr)) (fun _ wr=>qGp wr b)
 case atStart=>exact⟨[],l,hZ (qE3 _).symm,hZ (by have:=H0.o;simp;exact this),HR,hZ (World.ownsRow_nil _ _ _ _),hZ (qAg.refl _ _)⟩
 case round=>
  obtain⟨acc,l1,HE,HL,HR1,HO,HK⟩:=hrel;clear HR;obtain⟨v1,hb1,ht1⟩:=HR1.o;have HC:=hZ (qA6 b N v1 cs l1 wr hb1 ht1);clear hb1 ht1;have HQ:=hZ (qE9 l1)
  go_wp2_with fail
  refine HC.o.mono ?_;rintro e w2 (⟨n,l2,h1,rfl,hr2⟩|⟨z,h1,rfl,hr2⟩);rotate_left
  ·rw[h1]at HQ
   have HB:=hZ hr2;clear hr2 h1
   go_wp2_with fail
   exact⟨rfl,.inr ⟨z,by rw[HE.o,HQ.o];rfl,rfl,HK.o.trans HB.o⟩⟩
  rw[h1]at HQ;simp only[]at HQ;have HB2:=hZ hr2;have HN1:=hZ h1;clear hr2 h1;have HO2:Hid (w2.ownsRow w.heap.size 68 3 _ acc.length (acc.flatMap prC)):=hZ (HB2.o.2.own HO.o (fun k hk he=>by have:=(HO.o.lt k hk).1;omega));have HK2:=hZ (HK.o.trans HB2.o.2);have HR2:Hid (Rdr w2 b N l2 cs):=hZ HB2.o.1;clear HB2 HO HK
  go_wp2_with fail
  obtain⟨v2,hb2,ht2⟩:=HR2.o;refine(qAK b N v2 cs l2 0 [] w2 hb2 ht2).mono ?_;rintro e w3 (⟨t,l3,h1,rfl,hr3⟩|⟨z,h1,rfl,hr3⟩);rotate_left
  ·rw[h1]at HQ
   have HB:=hZ hr3;clear hr3 h1 hb2 ht2
   go_wp2_with fail
   exact⟨rfl,.inr ⟨z,by rw[HE.o,HQ.o];rfl,rfl,HK2.o.trans HB.o⟩⟩
  rw[h1]at HQ;simp only[]at HQ;have HO3:Hid (w3.ownsRow w.heap.size 68 3 _ acc.length (acc.flatMap prC)):=hZ (hr3.2.own HO2.o (fun k hk he=>by have:=(HO2.o.lt k hk).1;omega));have HK3:=hZ (HK2.o.trans hr3.2);have HR3:Hid (Rdr w3 b N l3 cs):=hZ hr3.1;have hl3:=qAu h1;clear hr3 h1 hb2 ht2 HO2 HK2 HR2;unfold qEW;obtain⟨w4,hw4⟩:=eX (w3.alloc (.cells #[.int .i64 t.kind,.string ⟨t.text.toArray⟩,.int .i64 t.n,.int .i64 t.at_] 55));have hB4:Below w3.heap.size w3 w4:=by rw[<-hw4];exact qAa _ _
  have t1:w4.cell? ⟨w3.heap.size,1,none⟩=some (.string ⟨t.text.toArray⟩):=by rw[<-hw4];simp
  have t3:w4.cell? ⟨w3.heap.size,3,none⟩=some (.int .i64 t.at_):=by rw[<-hw4];simp
  have HO4:Hid (w4.ownsRow w.heap.size 68 3 _ acc.length (acc.flatMap prC)):=hZ ((qAg.of_below (S:=fun _=>False) hB4).own HO3.o (fun _ _ h=>h));have HR4:Hid (Rdr w4 b N l3 cs):=hZ (HR3.o.below hB4);have HK4:=hZ (HK3.o.trans (qAg.of_below hB4));clear hB4 HO3 HR3 HK3;have hac:acc.length<=100000:=by have:=HL.o;omega
  go_wp2_with (at_builtin;refine qA5 (W0:=w4) qJ1 rfl _ _ rfl (prC ⟨n,t.text,t.at_⟩) 68 _ _ _ rfl rfl rfl (by simp[prC,Value.oneCell']) HO4.o (Below.refl _ _) HK4.o.size (by omega) (by omega) ?_)
  intro g5 cap5 w5 HO5 HB5 HW5 hcap5 hat5;clear hw4 t1 t3;have HR5:Hid (Rdr w5 b N l3 cs):=hZ (HR4.o.kp (KpX.own (X:=[68]) HO4.o HW5.o (by simp)) (by decide) (by decide));have HK5:=hZ (HK4.o.behind HB5.o);clear HR4 HK4 HO4 HB5 HW5 hat5;have HA:(acc++[(⟨n,t.text,t.at_⟩:Pr)]).flatMap prC=acc.flatMap prC++prC ⟨n,t.text,t.at_⟩:=by simp
  obtain⟨p,hp⟩:∃p:Pr,p=⟨n,t.text,t.at_⟩:=⟨_,rfl⟩;rw[<-hp]at HQ HA HO5;rw[<-HA]at HO5;obtain⟨acc',ha'⟩:∃acc',acc'=acc++[p]:=⟨_,rfl⟩;have hal:acc.length+1=acc'.length:=by rw[ha'];simp
  rw[<-ha',hal]at HO5;have HL5:Hid (acc'.length+l3.length<=100000/\l3.length<l1.length):=hZ (by
   have:=HL.o;have h9:=qBu HN1.o;omega)
  obtain⟨v5,hb5,ht5⟩:=HR5.o;have HC5:=hZ (qCy b N v5 cs l3 [44] w5 hb5 ht5);clear hb5 ht5 hp HA;rw[hal];clear hal hac hcap5;by_cases hs:isT 2 [44] l3=true
  ·rw[hs]at HC5
   rw[if_pos hs]at HQ;unfold qIT at HC5;rw[hs,if_pos rfl]at HC5;have Hs:=hZ hs;have Ha:=hZ ha';clear hs ha'
   go_wp2_with fail
   refine HC5.o.mono ?_;rintro e w6 ⟨rfl,hr6⟩;have HO6:Hid (w6.ownsRow w.heap.size 68 3 _ acc'.length (acc'.flatMap prC)):=hZ (hr6.2.own HO5.o (fun k hk he=>by have:=(HO5.o.lt k hk).1;omega));have HK6:=hZ (HK5.o.trans hr6.2);have HR6:Hid (Rdr w6 b N (l3.drop 1) cs):=hZ hr6.1;clear hr6 HC5 HR5 HK5 HO5
   go_wp2_with fail
   go_roundw
   case rel=>
    exact⟨acc',l3.drop 1,hZ (by rw[HE.o,HQ.o,qDP,Ha.o]),hZ (by have:=HL5.o;simp;omega),HR6,HO6,HK6⟩
   case measure=>
    rw[HR6.o.len,HR1.o.len];have:=HL5.o;simp;omega
  ·rw[Bool.not_eq_true]at hs
   rw[hs]at HC5;rw[if_neg (by rw[hs];simp)]at HQ;unfold qIT at HC5;rw[hs,if_neg (by simp)]at HC5;have Ha:=hZ ha';clear hs ha'
   go_wp2_with fail
   refine HC5.o.mono ?_;rintro e w6 ⟨rfl,hr6⟩;have HO6:Hid (w6.ownsRow w.heap.size 68 3 _ acc'.length (acc'.flatMap prC)):=hZ (hr6.2.own HO5.o (fun k hk he=>by have:=(HO5.o.lt k hk).1;omega));have HK6:=hZ (HK5.o.trans hr6.2);have HR6:Hid (Rdr w6 b N l3 cs):=hZ hr6.1;clear hr6 HC5 HR5 HK5 HO5
   go_wp2_with fail
   go_ret;exact .inl ⟨acc',l3,_,by rw[HE.o,HQ.o];rw[Ha.o];rfl,rfl,qAD.of_own HO6.o,HR6.o,HK6.o⟩
def qAU(e et:TypeId)(w:World)(v:Value)(l:List (List Pr)):Prop:=TSl et 1 (fun w r cs=>∃u,cs=[u]/\qAD e w u r) w v l
def brC(x:Int×Int):List Value:=[.int .i64 x.1,.int .i64 x.2]
def qCA(w:World)(v:Value)(l:List (Int×Int)):Prop:=TSl 76 2 (fun _ x cs=>cs=brC x) w v l
theorem qAU.kp{e et:TypeId}{X:List TypeId}{w w':World}{v:Value}{l:List (List Pr)}(h:qAU e et w v l)(hk:KpX X w w')(he:e∉X)(he2:et∉X):qAU e et w' v l:=
 TSl.kp h hk he2 (fun _ _ ⟨u,h1,h2⟩=>⟨u,h1,h2.kp hk he⟩)
theorem qCA.kp{X:List TypeId}{w w':World}{v:Value}{l:List (Int×Int)}(h:qCA w v l)(hk:KpX X w w')(he:76∉X):qCA w' v l:=TSl.kp h hk he (fun _ _ h=>h)
structure Ls where
 t:Value
 g:Value
 b:Value
 r:Value
 x:Value
def dcC(d:Dc)(y:Ls):List Value:=[.int .i64 d.kind,.string ⟨d.name.toArray⟩,.int .i64 d.at_,.bool d.object,.bool d.mixed,.bool d.coin,.int .i64 d.wear,.int .i64 d.bind,.int .i64 d.level,.int .i64 d.time,.int .i64 d.chance,.int .i64 d.of_,y.t,y.g,y.b,y.r,y.x]
structure qJQ(e et:TypeId)(w:World)(d:Dc)(y:Ls):Prop where
 t:qAD e w y.t d.take
 g:qAD e w y.g d.give
 b:qAD e w y.b d.back
 r:qAU e et w y.r d.rows
 x:qCA w y.x d.brs
def qF4(e et:TypeId)(w:World)(cs:List Value)(d:Dc):Prop:=∃y,cs=dcC d y/\qJQ e et w d y
theorem qJQ.kp{e et:TypeId}{X:List TypeId}{w w':World}{d:Dc}{y:Ls}(h:qJQ e et w d y)(hk:KpX X w w')(h1:e∉X)(h2:et∉X)(h3:76∉X):qJQ e et w' d y:=
 ⟨h.t.kp hk h1,h.g.kp hk h1,h.b.kp hk h1,h.r.kp hk h1 h2,h.x.kp hk h3⟩
theorem qF4.kp{e et:TypeId}{X:List TypeId}{w w':World}{cs:List Value}{d:Dc}(h:qF4 e et w cs d)(hk:KpX X w w')(h1:e∉X)(h2:et∉X)(h3:76∉X):qF4 e et w' cs d:=by
 obtain⟨y,h4,h5⟩:=h;exact⟨y,h4,h5.kp hk h1 h2 h3⟩
abbrev DPar:=qF4 68 58
theorem DPar.kr{w w':World}{cs:List Value}{d:Dc}(h:DPar w cs d)(hk:KpX [96] w w'):DPar w' cs d:=h.kp hk (by decide) (by decide) (by decide)
abbrev LPar:=qJQ 68 58
theorem qJQ.kr{w w':World}{d:Dc}{y:Ls}(h:LPar w d y)(hk:KpX [96] w w'):LPar w' d y:=h.kp hk (by decide) (by decide) (by decide)
theorem RdB.setC{w:World}{b N:Nat}{v:Value}{cs:List Value}(h:RdB w b v N cs)(i:Nat)(u:Value):RdB (w.setCell ⟨b,i+2,none⟩ u) b v N (cs.set i u):=by
 unfold RdB at h ⊢;simp[World.setCell,Array.getElem?_modify,h]
theorem RdB.setOk{w:World}{b N:Nat}{v:Value}{cs:List Value}{l:List Tok}(h:RdB w b v N cs)(ht:qDG 55 w v l)(i:Nat)(u:Value):qGF b N w (w.setCell ⟨b,i+2,none⟩ u) l (cs.set i u):=
 ⟨⟨v,h.setC i u,ht.kp (KpX.set (X:=[96]) h (by simp) _) (by decide)⟩,(qAg.refl (fun k=>k=b) w).set (p:=⟨b,i+2,none⟩) rfl _⟩
def qBj(b N:Nat)(x:Rd Dc)(w:World)(e:Ending)(w':World):Prop:=
 (∃d' l' cs',x=.ok (d',l')/\e=.returned (.tuple #[])/\DPar w' cs' d'/\qGF b N w w' l' cs')\/(∃z,x=.error z/\qGG b N w w' z e)
theorem qHw(b N:Nat)(cs:List Value)(d:Dc)(l:List Tok)(w:World)(hr:Rdr w b N l cs)(hd:DPar w cs d)(hl:l.length<=100000):
 Calls Tryd.prog 36 #[.pointer (some ⟨b,0,none⟩)] w (qBj b N (pFg .object d l) w):=by
 obtain⟨y,rfl,hy⟩:=hd;obtain⟨v,hb,ht⟩:=hr;have c:w.cell? ⟨b,5,none⟩=some (.bool d.object):=hb.cell 5;have f:=hb.frozen 5;have HS:=hZ (hb.setOk ht 3 (.bool true));have HY:=hZ (hy.kr (hb.kpx HS.o.2));clear hb ht hy
 go_enter Tryd.func36,Tryd.ntmps36
 go_wp2_with fail
 go_end0
 exact .inl ⟨{ d with object:=true },l,_,rfl,rfl,⟨y,rfl,HY.o.t,HY.o.g,HY.o.b,HY.o.r,HY.o.x⟩,HS.o⟩
theorem qIn(b N:Nat)(cs:List Value)(d:Dc)(l:List Tok)(w:World)(hr:Rdr w b N l cs)(hd:DPar w cs d)(hl:l.length<=100000):
 Calls Tryd.prog 37 #[.pointer (some ⟨b,0,none⟩)] w (qBj b N (pFg .mixed d l) w):=by
 obtain⟨y,rfl,hy⟩:=hd;obtain⟨v,hb,ht⟩:=hr;have c:w.cell? ⟨b,6,none⟩=some (.bool d.mixed):=hb.cell 6;have f:=hb.frozen 6;have HS:=hZ (hb.setOk ht 4 (.bool true));have HY:=hZ (hy.kr (hb.kpx HS.o.2));clear hb ht hy
 go_enter Tryd.func37,Tryd.ntmps37
 go_wp2_with fail
 go_end0
 exact .inl ⟨{ d with mixed:=true },l,_,rfl,rfl,⟨y,rfl,HY.o.t,HY.o.g,HY.o.b,HY.o.r,HY.o.x⟩,HS.o⟩
theorem qJJ(b N:Nat)(cs:List Value)(d:Dc)(l:List Tok)(w:World)(hr:Rdr w b N l cs)(hd:DPar w cs d)(hl:l.length<=100000):
 Calls Tryd.prog 38 #[.pointer (some ⟨b,0,none⟩)] w (qBj b N (pFg .coin d l) w):=by
 obtain⟨y,rfl,hy⟩:=hd;obtain⟨v,hb,ht⟩:=hr;have c:w.cell? ⟨b,7,none⟩=some (.bool d.coin):=hb.cell 7;have f:=hb.frozen 7;have HS:=hZ (hb.setOk ht 5 (.bool true));have HY:=hZ (hy.kr (hb.kpx HS.o.2));clear hb ht hy
 go_enter Tryd.func38,Tryd.ntmps38
 go_wp2_with fail
 go_end0
 exact .inl ⟨{ d with coin:=true },l,_,rfl,rfl,⟨y,rfl,HY.o.t,HY.o.g,HY.o.b,HY.o.r,HY.o.x⟩,HS.o⟩
theorem qI0(b N:Nat)(cs:List Value)(d:Dc)(l:List Tok)(w:World)(hr:Rdr w b N l cs)(hd:DPar w cs d)(hl:l.length<=100000):
 Calls Tryd.prog 39 #[.pointer (some ⟨b,0,none⟩)] w (qBj b N (pFg .wear d l) w):=by
 obtain⟨y,rfl,hy⟩:=hd;obtain⟨v,hb,ht⟩:=hr;have HY0:=hZ hy;have HC:=hZ (qA6 b N v _ l w hb ht);have HR0:Hid (Rdr w b N l _):=hZ ⟨v,hb,ht⟩;clear hb ht hy
 go_enter Tryd.func39,Tryd.ntmps39
 go_wp2_with fail
 refine HC.o.mono ?_;rintro e w2 (⟨n,l2,h1,rfl,hr2⟩|⟨z,h1,rfl,hr2⟩);rotate_left
 ·have HT:=hZ h1
  have HB:=hZ hr2;clear hr2 h1
  go_wp2_with fail
  exact⟨rfl,.inr ⟨z,by unfold pFg;rw[HT.o],rfl,HB.o⟩⟩
 have HT:=hZ h1;obtain⟨⟨v2,hb2,ht2⟩,hO⟩:=hr2;have c:w2.cell? ⟨b,8,none⟩=some (.int .i64 d.wear):=hb2.cell 8;have f:=hb2.frozen 8;have HS:=hZ (hb2.setOk ht2 6 (.int .i64 n));have HY:=hZ ((HY0.o.kr (HR0.o.kpx hO)).kr (hb2.kpx HS.o.2));have HO:=hZ hO;clear hb2 ht2 h1 hO
 go_wp2_with fail
 go_end0
 exact .inl ⟨{ d with wear:=n },l2,_,by unfold pFg;rw[HT.o],rfl,⟨y,rfl,HY.o.t,HY.o.g,HY.o.b,HY.o.r,HY.o.x⟩,qBc HS.o HO.o⟩
theorem qIs(b N:Nat)(cs:List Value)(d:Dc)(l:List Tok)(w:World)(hr:Rdr w b N l cs)(hd:DPar w cs d)(hl:l.length<=100000):
 Calls Tryd.prog 41 #[.pointer (some ⟨b,0,none⟩)] w (qBj b N (pFg .level d l) w):=by
 obtain⟨y,rfl,hy⟩:=hd;obtain⟨v,hb,ht⟩:=hr;have HY0:=hZ hy;have HC:=hZ (qA6 b N v _ l w hb ht);have HR0:Hid (Rdr w b N l _):=hZ ⟨v,hb,ht⟩;clear hb ht hy
 go_enter Tryd.func41,Tryd.ntmps41
 go_wp2_with fail
 refine HC.o.mono ?_;rintro e w2 (⟨n,l2,h1,rfl,hr2⟩|⟨z,h1,rfl,hr2⟩);rotate_left
 ·have HT:=hZ h1
  have HB:=hZ hr2;clear hr2 h1
  go_wp2_with fail
  exact⟨rfl,.inr ⟨z,by unfold pFg;rw[HT.o],rfl,HB.o⟩⟩
 have HT:=hZ h1;obtain⟨⟨v2,hb2,ht2⟩,hO⟩:=hr2;have c:w2.cell? ⟨b,10,none⟩=some (.int .i64 d.level):=hb2.cell 10;have f:=hb2.frozen 10;have HS:=hZ (hb2.setOk ht2 8 (.int .i64 n));have HY:=hZ ((HY0.o.kr (HR0.o.kpx hO)).kr (hb2.kpx HS.o.2));have HO:=hZ hO;clear hb2 ht2 h1 hO
 go_wp2_with fail
 go_end0
 exact .inl ⟨{ d with level:=n },l2,_,by unfold pFg;rw[HT.o],rfl,⟨y,rfl,HY.o.t,HY.o.g,HY.o.b,HY.o.r,HY.o.x⟩,qBc HS.o HO.o⟩
theorem qI4(b N:Nat)(cs:List Value)(d:Dc)(l:List Tok)(w:World)(hr:Rdr w b N l cs)(hd:DPar w cs d)(hl:l.length<=100000):
 Calls Tryd.prog 42 #[.pointer (some ⟨b,0,none⟩)] w (qBj b N (pFg .time d l) w):=by
 obtain⟨y,rfl,hy⟩:=hd;obtain⟨v,hb,ht⟩:=hr;have HY0:=hZ hy;have HC:=hZ (qA6 b N v _ l w hb ht);have HR0:Hid (Rdr w b N l _):=hZ ⟨v,hb,ht⟩;clear hb ht hy
 go_enter Tryd.func42,Tryd.ntmps42
 go_wp2_with fail
 refine HC.o.mono ?_;rintro e w2 (⟨n,l2,h1,rfl,hr2⟩|⟨z,h1,rfl,hr2⟩);rotate_left
 ·have HT:=hZ h1
  have HB:=hZ hr2;clear hr2 h1
  go_wp2_with fail
  exact⟨rfl,.inr ⟨z,by unfold pFg;rw[HT.o],rfl,HB.o⟩⟩
 have HT:=hZ h1;obtain⟨⟨v2,hb2,ht2⟩,hO⟩:=hr2;have c:w2.cell? ⟨b,11,none⟩=some (.int .i64 d.time):=hb2.cell 11;have f:=hb2.frozen 11;have HS:=hZ (hb2.setOk ht2 9 (.int .i64 n));have HY:=hZ ((HY0.o.kr (HR0.o.kpx hO)).kr (hb2.kpx HS.o.2));have HO:=hZ hO;clear hb2 ht2 h1 hO
 go_wp2_with fail
 go_end0
 exact .inl ⟨{ d with time:=n },l2,_,by unfold pFg;rw[HT.o],rfl,⟨y,rfl,HY.o.t,HY.o.g,HY.o.b,HY.o.r,HY.o.x⟩,qBc HS.o HO.o⟩
theorem qI6(b N:Nat)(cs:List Value)(d:Dc)(l:List Tok)(w:World)(hr:Rdr w b N l cs)(hd:DPar w cs d)(hl:l.length<=100000):
 Calls Tryd.prog 44 #[.pointer (some ⟨b,0,none⟩)] w (qBj b N (pFg .take d l) w):=by
 obtain⟨y,rfl,hy⟩:=hd;obtain⟨v,hb,ht⟩:=hr;have HY0:=hZ hy;have HC:=hZ (qDQ b N _ l w ⟨v,hb,ht⟩ hl);have HR0:Hid (Rdr w b N l _):=hZ ⟨v,hb,ht⟩;clear hb ht hy
 go_enter Tryd.func44,Tryd.ntmps44
 go_wp2_with fail
 refine HC.o.mono ?_;rintro e w2 (⟨x,l2,u,h1,rfl,hp,hr2⟩|⟨z,h1,rfl,hr2⟩);rotate_left
 ·have HT:=hZ h1
  have HB:=hZ hr2;clear hr2 h1
  go_wp2_with fail
  exact⟨rfl,.inr ⟨z,by unfold pFg;rw[HT.o],rfl,HB.o⟩⟩
 have HT:=hZ h1;obtain⟨⟨v2,hb2,ht2⟩,hO⟩:=hr2;have c:w2.cell? ⟨b,14,none⟩=some y.t:=hb2.cell 14;have f:=hb2.frozen 14;obtain⟨au,cu,rfl, -,-⟩:=TSl.form hp;have HS:=hZ (hb2.setOk ht2 12 (.slice au x.length cu));have HP:=hZ (hp.kp (hb2.kpx HS.o.2) (by decide));have HY:=hZ ((HY0.o.kr (HR0.o.kpx hO)).kr (hb2.kpx HS.o.2));have HO:=hZ hO;clear hb2 ht2 h1 hO hp
 go_wp2_with fail
 go_end0
 exact .inl ⟨{ d with take:=x },l2,_,by unfold pFg;rw[HT.o],rfl,⟨{ y with t:=.slice au x.length cu },rfl,HP.o,HY.o.g,HY.o.b,HY.o.r,HY.o.x⟩,qBc HS.o HO.o⟩
theorem qJD(b N:Nat)(cs:List Value)(d:Dc)(l:List Tok)(w:World)(hr:Rdr w b N l cs)(hd:DPar w cs d)(hl:l.length<=100000):
 Calls Tryd.prog 45 #[.pointer (some ⟨b,0,none⟩)] w (qBj b N (pFg .give d l) w):=by
 obtain⟨y,rfl,hy⟩:=hd;obtain⟨v,hb,ht⟩:=hr;have HY0:=hZ hy;have HC:=hZ (qDQ b N _ l w ⟨v,hb,ht⟩ hl);have HR0:Hid (Rdr w b N l _):=hZ ⟨v,hb,ht⟩;clear hb ht hy
 go_enter Tryd.func45,Tryd.ntmps45
 go_wp2_with fail
 refine HC.o.mono ?_;rintro e w2 (⟨x,l2,u,h1,rfl,hp,hr2⟩|⟨z,h1,rfl,hr2⟩);rotate_left
 ·have HT:=hZ h1
  have HB:=hZ hr2;clear hr2 h1
  go_wp2_with fail
  exact⟨rfl,.inr ⟨z,by unfold pFg;rw[HT.o],rfl,HB.o⟩⟩
 have HT:=hZ h1;obtain⟨⟨v2,hb2,ht2⟩,hO⟩:=hr2;have c:w2.cell? ⟨b,15,none⟩=some y.g:=hb2.cell 15;have f:=hb2.frozen 15;obtain⟨au,cu,rfl, -,-⟩:=TSl.form hp;have HS:=hZ (hb2.setOk ht2 13 (.slice au x.length cu));have HP:=hZ (hp.kp (hb2.kpx HS.o.2) (by decide));have HY:=hZ ((HY0.o.kr (HR0.o.kpx hO)).kr (hb2.kpx HS.o.2));have HO:=hZ hO;clear hb2 ht2 h1 hO hp
 go_wp2_with fail
 go_end0
 exact .inl ⟨{ d with give:=x },l2,_,by unfold pFg;rw[HT.o],rfl,⟨{ y with g:=.slice au x.length cu },rfl,HY.o.t,HP.o,HY.o.b,HY.o.r,HY.o.x⟩,qBc HS.o HO.o⟩
theorem qJO(b N:Nat)(cs:List Value)(d:Dc)(l:List Tok)(w:World)(hr:Rdr w b N l cs)(hd:DPar w cs d)(hl:l.length<=100000):
 Calls Tryd.prog 46 #[.pointer (some ⟨b,0,none⟩)] w (qBj b N (pFg .back d l) w):=by
 obtain⟨y,rfl,hy⟩:=hd;obtain⟨v,hb,ht⟩:=hr;have HY0:=hZ hy;have HC:=hZ (qDQ b N _ l w ⟨v,hb,ht⟩ hl);have HR0:Hid (Rdr w b N l _):=hZ ⟨v,hb,ht⟩;clear hb ht hy
 go_enter Tryd.func46,Tryd.ntmps46
 go_wp2_with fail
 refine HC.o.mono ?_;rintro e w2 (⟨x,l2,u,h1,rfl,hp,hr2⟩|⟨z,h1,rfl,hr2⟩);rotate_left
 ·have HT:=hZ h1
  have HB:=hZ hr2;clear hr2 h1
  go_wp2_with fail
  exact⟨rfl,.inr ⟨z,by unfold pFg;rw[HT.o],rfl,HB.o⟩⟩
 have HT:=hZ h1;obtain⟨⟨v2,hb2,ht2⟩,hO⟩:=hr2;have c:w2.cell? ⟨b,16,none⟩=some y.b:=hb2.cell 16;have f:=hb2.frozen 16;obtain⟨au,cu,rfl, -,-⟩:=TSl.form hp;have HS:=hZ (hb2.setOk ht2 14 (.slice au x.length cu));have HP:=hZ (hp.kp (hb2.kpx HS.o.2) (by decide));have HY:=hZ ((HY0.o.kr (HR0.o.kpx hO)).kr (hb2.kpx HS.o.2));have HO:=hZ hO;clear hb2 ht2 h1 hO hp
 go_wp2_with fail
 go_end0
 exact .inl ⟨{ d with back:=x },l2,_,by unfold pFg;rw[HT.o],rfl,⟨{ y with b:=.slice au x.length cu },rfl,HY.o.t,HY.o.g,HP.o,HY.o.r,HY.o.x⟩,qBc HS.o HO.o⟩
theorem qJN(b N:Nat)(cs:List Value)(d:Dc)(l:List Tok)(w:World)(hr:Rdr w b N l cs)(hd:DPar w cs d)(hl:l.length<=100000):
 Calls Tryd.prog 40 #[.pointer (some ⟨b,0,none⟩)] w (qBj b N (pFg .bind d l) w):=by
 obtain⟨y,rfl,hy⟩:=hd;obtain⟨v,hb,ht⟩:=hr;have c:w.cell? ⟨b,9,none⟩=some (.int .i64 d.bind):=hb.cell 9;have f:=hb.frozen 9;obtain⟨w1,hw1⟩:=eX (w.setCell ⟨b,9,none⟩ (.int .i64 1));have hs:=hb.setOk ht 7 (.int .i64 1);rw[show(7+2:Nat)=9 from rfl,hw1]at hs;have HY1:=hZ (hy.kr (hb.kpx hs.2));have HO1:=hZ hs.2;obtain⟨⟨v1,hb1,ht1⟩,-⟩:=hs;have HU:=hZ (qEh b N v1 _ l 0 qG9 w1 hb1 ht1);have HG:=hZ (qEh b N v1 _ l 0 qHO w1 hb1 ht1);have HF:=hZ (qDS b N v1 _ l w1 hb1 ht1);have HN:=hZ (qAK b N v1 _ l 0 [] w1 hb1 ht1);have c1:w1.cell? ⟨b,9,none⟩=some (.int .i64 1):=hb1.cell 9;have f1:=hb1.frozen 9;have HR1:Hid (Rdr w1 b N l _):=hZ ⟨v1,hb1,ht1⟩;clear hy;have word:∀s:Bs,s≠[]->isT 0 s l=true->∃t,qAR 0 [] l=.ok (t,l.drop 1):=by
  intro s hs h;cases l with
  |nil=>cases h
  |cons t l=>
   have h':t.is 0 s=true:=h;have h2:t.is 0 []=true:=by
    unfold Tok.is at h' ⊢;simp at h' ⊢;exact h'.1
   exact⟨t,by simp only[qAR,if_pos h2,List.drop_succ_cons,List.drop_zero]⟩
 by_cases hu:isT 0 qG9 l=true
 ·obtain⟨w2,hw2⟩:=eX (w1.setCell ⟨b,9,none⟩ (.int .i64 2))
  have hs:=hb1.setOk ht1 7 (.int .i64 2);rw[show(7+2:Nat)=9 from rfl,hw2]at hs;have HY2:=hZ (HY1.o.kr (hb1.kpx hs.2));have HO2:=hZ (HO1.o.trans hs.2);obtain⟨⟨v2,hb2,ht2⟩,-⟩:=hs;have HN2:=hZ (qAK b N v2 _ l 0 [] w2 hb2 ht2);have HR2:Hid (Rdr w2 b N l _):=hZ ⟨v2,hb2,ht2⟩;obtain⟨t,hT⟩:=word qG9 (by decide) hu;have HT:=hZ hT;rw[hu]at HU;have Hu:=hZ hu;clear hb ht hb1 ht1 hb2 ht2 hT word HN HG HF hu
  go_enter Tryd.func40,Tryd.ntmps40
  go_wp2_with fail
  refine HU.o.mono ?_;rintro e w' ⟨rfl,rfl⟩
  go_wp2_with fail
  refine HN2.o.mono ?_;rintro e w3 (⟨t3,l3,h1,rfl,hr3⟩|⟨z,h1,rfl,hr3⟩);rotate_left
  ·rw[HT.o]at h1;cases h1
  rw[HT.o]at h1;injection h1 with h1;injection h1 with h1 h2;subst h1 h2;have H3:=hZ hr3;clear hr3;unfold qEW
  go_wp2_with fail
  go_end0
  refine .inl ⟨{ d with bind:=2 },_,_,by unfold pFg;simp only[Hu.o,if_true],rfl,⟨y,rfl,?_⟩,qBc H3.o HO2.o⟩;have HY:=hZ (HY2.o.kr (HR2.o.kpx H3.o.2));exact⟨HY.o.t,HY.o.g,HY.o.b,HY.o.r,HY.o.x⟩
 rw[Bool.not_eq_true]at hu;rw[hu]at HU;by_cases hg:isT 0 qHO l=true
 ·obtain⟨t,hT⟩:=word qHO (by decide) hg
  have HT:=hZ hT;rw[hg]at HG;have Hu:=hZ hu;have Hg:=hZ hg;clear hb ht hb1 ht1 hT word HF hu hg
  go_enter Tryd.func40,Tryd.ntmps40
  go_wp2_with fail
  refine HU.o.mono ?_;rintro e w' ⟨rfl,rfl⟩
  go_wp2_with fail
  refine HG.o.mono ?_;rintro e w' ⟨rfl,rfl⟩
  go_wp2_with fail
  refine HN.o.mono ?_;rintro e w3 (⟨t3,l3,h1,rfl,hr3⟩|⟨z,h1,rfl,hr3⟩);rotate_left
  ·rw[HT.o]at h1;cases h1
  rw[HT.o]at h1;injection h1 with h1;injection h1 with h1 h2;subst h1 h2;have H3:=hZ hr3;clear hr3;unfold qEW
  go_wp2_with fail
  go_end0
  refine .inl ⟨{ d with bind:=1 },_,_,by unfold pFg;simp only[Hu.o,Hg.o,if_true];rfl,rfl,⟨y,rfl,?_⟩,qBc H3.o HO1.o⟩;have HY:=hZ (HY1.o.kr (HR1.o.kpx H3.o.2));exact⟨HY.o.t,HY.o.g,HY.o.b,HY.o.r,HY.o.x⟩
 rw[Bool.not_eq_true]at hg;rw[hg]at HG;have Hu:=hZ hu;have Hg:=hZ hg;clear hb ht hb1 ht1 word hu hg
 go_enter Tryd.func40,Tryd.ntmps40
 go_wp2_with fail
 refine HU.o.mono ?_;rintro e w' ⟨rfl,rfl⟩
 go_wp2_with fail
 refine HG.o.mono ?_;rintro e w' ⟨rfl,rfl⟩
 go_wp2_with fail
 refine HF.o.mono ?_;rintro e w' ⟨rfl,rfl⟩
 go_wp2_with fail
 exact⟨rfl,.inr ⟨l,by unfold pFg;simp only[Hu.o,Hg.o];rfl,rfl,HO1.o⟩⟩
theorem qHL(b N:Nat)(cs:List Value)(d:Dc)(l:List Tok)(w:World)(hr:Rdr w b N l cs)(hd:DPar w cs d)(hl:l.length<=100000):
 Calls Tryd.prog 43 #[.pointer (some ⟨b,0,none⟩)] w (qBj b N (pFg .chance d l) w):=by
 obtain⟨y,rfl,hy⟩:=hd;obtain⟨v,hb,ht⟩:=hr;have HY0:=hZ hy;have HC:=hZ (qA6 b N v _ l w hb ht);have HR0:Hid (Rdr w b N l _):=hZ ⟨v,hb,ht⟩;clear hb ht hy
 go_enter Tryd.func43,Tryd.ntmps43
 go_wp2_with fail
 refine HC.o.mono ?_;rintro e w2 (⟨n,l2,h1,rfl,hr2⟩|⟨z,h1,rfl,hr2⟩);rotate_left
 ·have HT:=hZ h1
  have HB:=hZ hr2;clear hr2 h1
  go_wp2_with fail
  exact⟨rfl,.inr ⟨z,by unfold pFg;rw[HT.o],rfl,HB.o⟩⟩
 have HT:=hZ h1;obtain⟨⟨v2,hb2,ht2⟩,hO⟩:=hr2;have c:w2.cell? ⟨b,12,none⟩=some (.int .i64 d.chance):=hb2.cell 12;have f:=hb2.frozen 12;obtain⟨w3,hw3⟩:=eX (w2.setCell ⟨b,12,none⟩ (.int .i64 n));have hs:=hb2.setOk ht2 10 (.int .i64 n);rw[show(10+2:Nat)=12 from rfl,hw3]at hs;have HY3:=hZ ((HY0.o.kr (HR0.o.kpx hO)).kr (hb2.kpx hs.2));have HO3:=hZ (hO.trans hs.2);obtain⟨⟨v3,hb3,ht3⟩,-⟩:=hs;have HR3:Hid (Rdr w3 b N l2 _):=hZ ⟨v3,hb3,ht3⟩;have HC3:=hZ (qAK b N v3 _ l2 0 wOf w3 hb3 ht3);clear hb2 ht2 h1 hO hb3 ht3
 go_wp2_with fail
 refine HC3.o.mono ?_;rintro e w4 (⟨t4,l4,h1,rfl,hr4⟩|⟨z,h1,rfl,hr4⟩);rotate_left
 ·have HT4:=hZ h1
  have HB:=hZ (HO3.o.trans hr4);clear hr4 h1
  go_wp2_with fail
  exact⟨rfl,.inr ⟨z,by unfold pFg;simp only[HT.o,HT4.o],rfl,HB.o⟩⟩
 have HT4:=hZ h1;have HY4:=hZ (HY3.o.kr (HR3.o.kpx hr4.2));have HO4:=hZ (HO3.o.trans hr4.2);obtain⟨⟨v4,hb4,ht4⟩,-⟩:=hr4;have HR4:Hid (Rdr w4 b N l4 _):=hZ ⟨v4,hb4,ht4⟩;have HC4:=hZ (qA6 b N v4 _ l4 w4 hb4 ht4);clear hb4 ht4 h1 hw3 c f;unfold qEW
 go_wp2_with fail
 refine HC4.o.mono ?_;rintro e w5 (⟨m,l5,h1,rfl,hr5⟩|⟨z,h1,rfl,hr5⟩);rotate_left
 ·have HT5:=hZ h1
  have HB:=hZ (HO4.o.trans hr5);clear hr5 h1
  go_wp2_with fail
  exact⟨rfl,.inr ⟨z,by unfold pFg;simp only[HT.o,HT4.o,HT5.o],rfl,HB.o⟩⟩
 have HT5:=hZ h1;obtain⟨⟨v5,hb5,ht5⟩,hO⟩:=hr5;have c:w5.cell? ⟨b,13,none⟩=some (.int .i64 d.of_):=hb5.cell 13;have f:=hb5.frozen 13;have HS:=hZ (hb5.setOk ht5 11 (.int .i64 m));have HY:=hZ ((HY4.o.kr (HR4.o.kpx hO)).kr (hb5.kpx HS.o.2));have HO:=hZ (HO4.o.trans hO);clear hb5 ht5 h1 hO
 go_wp2_with fail
 go_end0
 exact .inl ⟨{ d with chance:=n,of_:=m },l5,_,by unfold pFg;simp only[HT.o,HT4.o,HT5.o],rfl,⟨y,rfl,HY.o.t,HY.o.g,HY.o.b,HY.o.r,HY.o.x⟩,qBc HS.o HO.o⟩
theorem qDG.nth{e:TypeId}{w:World}{v:Value}{T:List Tok}(h:qDG e w v T)(i:Nat)(hi:i<T.length):∃g off cap,v=.slice (some ⟨g,off,none⟩) T.length cap/\T.length<=cap/\cap<=9223372036854775807/\g<w.heap.size/\
 w.cell? ⟨g,off+i*4,none⟩=some (.int .i64 T[i].kind)/\w.cell? ⟨g,off+i*4+1,none⟩=some (.string ⟨T[i].text.toArray⟩)/\w.cell? ⟨g,off+i*4+2,none⟩=some (.int .i64 T[i].n)/\w.cell? ⟨g,off+i*4+3,none⟩=some (.int .i64 T[i].at_):=by
 obtain⟨g,off,cap,es,hv,h1,h2,h3,rfl, -,hc⟩:=TSl.at_ h i hi;exact⟨g,off,cap,hv,h1,h2,h3,hc 0 (by omega),hc 1 (by omega),hc 2 (by omega),hc 3 (by omega)⟩
theorem qDE(w:World)(n:Nat):Below w.heap.size w (w.drewN n):=below_drewN (Below.refl _ _) n
theorem KpX.behind{X:List TypeId}{w w' w2:World}(h:KpX X w w')(hb:Below w.heap.size w' w2):KpX X w w2:=fun e cs b he hh=>(hb.block b (qAq hh)).trans (h e cs b he hh)
theorem qBJ{X:List TypeId}{w w':World}{base k n:Nat}{e:TypeId}{v:Value}{xs:List Value}(h:w.ownsRow base e k v n xs)(hk:KpX X w w')(he:e∉X):w'.ownsRow base e k v n xs:=by
 refine⟨h.1,?_⟩;rcases h.2 with h1|⟨g,cap,cur,h1,h2,h3,h4⟩
 ·exact .inl h1
 ·exact .inr ⟨g,cap,cur,h1,h2,hk _ _ g he h3,h4⟩
theorem qG5(b o j:Nat):(⟨b,o,none⟩:Addr).add j=⟨b,o+j,none⟩:=by unfold Addr.add;split<;>simp_all
theorem TSl.flat{α:Type}{e:TypeId}{k:Nat}{f:α->List Value}{w:World}{a:Option Addr}{n c:Nat}{xs:List α}(h:TSl e k (fun _ x cs=>cs=f x) w (.slice a n c) xs)(hk:∀x,(f x).length=k)(h0:0<k)(hne:xs≠[]):
 ∃ad,a=some ad/\n=xs.length/\∀j u,(xs.flatMap f)[j]? =some u->w.cell? (ad.add j)=some u:=by
 obtain⟨a',c',hv,h1,h2,h3⟩:=h;injection hv with e1 e2 e3;obtain⟨b,off,cs,ha,hb,hc⟩:=h3 hne;refine⟨⟨b,off,none⟩,e1.trans ha,e2,fun j u hu=> ?_⟩;rw[qG5,cell_of_row w b _ cs e (0,0) hb];have hl:(xs.flatMap f).length=xs.length*k:=by
  clear hu hc hb ha h3 h2 h1 e2 hne
  induction xs with
  |nil=>simp
  |cons x xs ih=>rw[List.flatMap_cons,List.length_append,ih,hk,List.length_cons,Nat.succ_mul];omega
 have hj:j<xs.length*k:=by
  rw[<-hl];exact(List.getElem?_eq_some_iff.1 hu).1
 have hq:j/k<xs.length:=Nat.div_lt_of_lt_mul (by rw[Nat.mul_comm];exact hj);have hm:j%k<k:=Nat.mod_lt _ h0;have hjj:j/k*k+j%k=j:=Nat.div_add_mod' j k;obtain⟨es,he,hes,hcc⟩:=hc (j/k) hq;have:=hcc (j%k) hm;rw[Nat.add_assoc,hjj]at this;rw[this,he];rw[List.flatMap_def]at hu;have h5:=qCM (xs.map f) k (j/k) (j%k) (by simp[hk]) (by simpa using hq) hm;rw[hjj,List.getElem_map]at h5;rw[<-h5];exact hu
theorem qFS(l:List Pr):(l.flatMap prC).length=l.length*3:=by
 induction l with
 |nil=>rfl
 |cons x l ih=>rw[List.flatMap_cons,List.length_append,ih,List.length_cons];simp[prC];omega
theorem qKb(l:List Pr):∀u∈l.flatMap prC,u.oneCell'=true:=by
 intro u hu;obtain⟨p,_,hp⟩:=List.mem_flatMap.1 hu;simp[prC]at hp;rcases hp with rfl|rfl|rfl<;>rfl
theorem qIi(w:World)(e:TypeId)(cs:List Value)(k base:Nat)(hk:cs.length=k)(hb:base<=w.heap.size):(w.alloc (.cells cs.toArray e)).ownsRow base e k (.slice (some ⟨w.heap.size,0,none⟩) 1 1) 1 cs:=by
 refine⟨by omega,.inr ⟨w.heap.size,1,cs.toArray,rfl,hb,heap_alloc_new w _,by omega,by unfold maxLen;omega,by simp;omega,?_⟩⟩;rw[List.take_of_length_le (by simp;omega)]
theorem qJi{l r:List Tok}{x:List Pr}(h:qAE l=.ok (x,r)):x≠[]:=by
 rw[qE9]at h;cases h1:qBg l with
 |error z=>rw[h1]at h;cases h
 |ok y=>
  obtain⟨n,l2⟩:=y;rw[h1]at h;simp only[]at h;cases h2:qAR 0 [] l2 with
  |error z=>rw[h2]at h;cases h
  |ok y=>
   obtain⟨t,l3⟩:=y;rw[h2]at h;simp only[]at h
   split at h
   ·cases h3:qAE (l3.drop 1)with
    |error z=>rw[h3]at h;cases h
    |ok y=>rw[h3]at h;cases h;simp
   ·cases h;simp
theorem qHq:∀(n:Nat) (l:List Tok) {x:List Pr} {r:List Tok},l.length<=n->qAE l=.ok (x,r)->x.length+r.length<=l.length:=by
 intro n
 induction n with
 |zero=>
  intro l x r hl h;obtain rfl:l=[]:=List.eq_nil_of_length_eq_zero (by omega);cases h
 |succ n ih=>
  intro l x r hl h;rw[qE9]at h;cases h1:qBg l with
  |error z=>rw[h1]at h;cases h
  |ok y=>
   obtain⟨n9,l2⟩:=y;rw[h1]at h;have e1:=qBu h1;simp only[]at h;cases h2:qAR 0 [] l2 with
   |error z=>rw[h2]at h;cases h
   |ok y=>
    obtain⟨t,l3⟩:=y;rw[h2]at h;have e2:=qAu h2;simp only[]at h
    split at h
    ·cases h3:qAE (l3.drop 1)with
     |error z=>rw[h3]at h;cases h
     |ok y=>
      rw[h3]at h;have:=ih (l3.drop 1) (x:=y.1) (r:=y.2) (by simp;omega) h3;cases h;simp at this ⊢;omega
    ·cases h;simp;omega
theorem qGw:qDT Tryd.prog 59 58 1 24:=qDT.mk (z:=.slice none 0 0) Tryd.underlying59 (by kernel_rfl) rfl (by decide)
def qDN(e:TypeId)(w:World)(us:List Value)(l:List (List Pr)):Prop:=us.length=l.length/\∀j (h:j<l.length) (h':j<us.length),qAD e w us[j] l[j]
theorem qDN.nil(e:TypeId)(w:World):qDN e w [] []:=⟨rfl,fun j h=>by simp at h⟩
theorem qDN.kp{e:TypeId}{X:List TypeId}{w w':World}{us:List Value}{l:List (List Pr)}(h:qDN e w us l)(hk:KpX X w w')(he:e∉X):qDN e w' us l:=⟨h.1,fun j h1 h2=>(h.2 j h1 h2).kp hk he⟩
theorem qDN.snoc{e:TypeId}{w:World}{us:List Value}{l:List (List Pr)}{u:Value}{r:List Pr}(h:qDN e w us l)(hu:qAD e w u r):qDN e w (us++[u]) (l++[r]):=by
 refine⟨by simp[h.1],fun j h1 h2=> ?_⟩;by_cases hj:j<l.length
 ·rw[List.getElem_append_left hj,List.getElem_append_left (by rw[h.1];exact hj)]
  exact h.2 j hj (by rw[h.1];exact hj)
 ·have h3:j=l.length:=by simp at h1;omega
  subst h3;have h4:=h.1;rw[List.getElem_append_right (Nat.le_refl _),List.getElem_append_right (by omega)];simpa using hu
theorem qDN.rows{e et:TypeId}{w:World}{base:Nat}{v:Value}{us:List Value}{l:List (List Pr)}(h:qDN e w us l)(ho:w.ownsRow base et 1 v l.length us):qAU e et w v l:=by
 have hf:(us.map (fun u=>[u])).flatten=us:=by
  have:∀us:List Value,(us.map (fun u=>[u])).flatten=us:=by
   intro us
   induction us with
   |nil=>rfl
   |cons u us ih=>simp[ih]
  exact this us
 refine TSl.of_own (css:=us.map (fun u=>[u])) (base:=base) (n:=l.length) (by rw[hf];exact ho) rfl (by simp) (by simp[h.1]) ?_;intro j h1 h2;rw[List.getElem_map];exact⟨_,rfl,h.2 j h1 (by rw[h.1];exact h1)⟩
structure qJ5(w:World)(d:Dc)(y:Ls):Prop where
 t:qAD 68 w y.t d.take
 g:qAD 68 w y.g d.give
 b:qAD 68 w y.b d.back
 x:qCA w y.x d.brs
theorem qJ5.kp{X:List TypeId}{w w':World}{d:Dc}{y:Ls}(h:qJ5 w d y)(hk:KpX X w w')(h1:68∉X)(h3:76∉X):qJ5 w' d y:=
 ⟨h.t.kp hk h1,h.g.kp hk h1,h.b.kp hk h1,h.x.kp hk h3⟩
theorem qJ5.kr{w w':World}{d:Dc}{y:Ls}(h:qJ5 w d y)(hk:KpX [96] w w'):qJ5 w' d y:=h.kp hk (by decide) (by decide)
def qD7(d:Dc)(l:List Tok):Rd Dc:=match qBk (l.length+1) l with|.error z=> .error z|.ok (x,r)=> .ok ({ d with rows:=x },r)
theorem qCu(f:Nat)(l:List Tok):qBk (f+1) l=match qDz l with
 |.error z=> .error z
 |.ok (x,l1)=>if isT 2 [43] l1 then qH9 [x] (qBk f (l1.drop 1))else .ok ([x],l1):=by
 rw[qBk];cases qDz l with
 |error z=>rfl
 |ok y=>
  obtain⟨x,l1⟩:=y;simp only[]
  split
  ·cases qBk f (l1.drop 1)<;>rfl
  ·rfl
theorem qI8(b N:Nat)(d:Dc)(y:Ls)(l:List Tok)(w:World)(hr:Rdr w b N l (dcC d y))(hy:qJ5 w d y)(hv:y.r=.slice none 0 0)(hl:l.length<=100000):
 Calls Tryd.prog 76 #[.pointer (some ⟨b,0,none⟩)] w
  (qBj b N (qD7 d l) w):=by
 have HR:=hZ hr;have hlt:=hr.lt;have H0:=hZ hl;have HY:=hZ hy;have HV:=hZ hv;clear hr hl hy hv
 go_enter Tryd.func76,Tryd.ntmps76
 go_wp2_with fail
 go_loopw [] (fun wr=>∃(acc:List (List Pr)) (us:List Value) (v:Value) (f1:Nat) (l1:List Tok),Hid (qBk (l.length+1) l=qH9 acc (qBk (f1+1) l1))/\Hid (acc.length+l1.length<=100000/\l1.length<=f1)/\Hid (Rdr wr b N l1 (dcC d { y with r:=v }))/\
  Hid (wr.ownsRow w.heap.size 58 1 v acc.length us)/\Hid (qDN 68 wr us acc)/\Hid (qJ5 wr d y)/\Hid (qAg (fun k=>k=b) w wr)) (fun wr=>qGp wr b)
 case atStart=>exact⟨[],[],_,l.length,l,hZ (qE3 _).symm,hZ (by have:=H0.o;simp;exact this),hZ (by have:=HR.o;rw[<-HV.o];exact this),hZ (World.ownsRow_nil _ _ _ _),hZ (qDN.nil _ _),HY,hZ (qAg.refl _ _)⟩
 case round=>
  obtain⟨acc,us,v,f1,l1,HE,HL,HR1,HO,HU,HY1,HK⟩:=hrel;clear HR HY;obtain⟨v1,hb1,ht1⟩:=HR1.o;have HC:=hZ (qAK b N v1 _ l1 1 [] wr hb1 ht1);clear hb1 ht1
  go_wp2_with fail
  refine HC.o.mono ?_;rintro e w2 (⟨t,l2,h1,rfl,hr2⟩|⟨z,h1,rfl,hr2⟩);rotate_left
  ·have HQ:Hid (qDz l1=.error z):=hZ (by unfold qDz;rw[h1])
   have HB:=hZ (HK.o.trans hr2);clear hr2 h1
   go_wp2_with fail
   exact⟨rfl,.inr ⟨z,by unfold qD7;rw[HE.o,qCu,HQ.o];rfl,rfl,HB.o⟩⟩
  have HT1:=hZ h1;have hl2:=qAu h1;have HO1:=HO;have HU1:=HU;have HK1:=HK;have HO2:=hZ (hr2.2.own HO1.o (fun k hk he=>by have:=(HO1.o.lt k hk).1;omega));have HU2:=hZ (HU1.o.kp (HR1.o.kpx hr2.2) (by decide));have HY2:=hZ (HY1.o.kr (HR1.o.kpx hr2.2));have HK2:=hZ (HK1.o.trans hr2.2);have HR2:Hid (Rdr w2 b N l2 _):=hZ hr2.1;clear hr2 h1 HO HU HK HO1 HU1 HY1 HK1;unfold qEW;obtain⟨w3,hw3⟩:=eX (w2.alloc (.cells #[.int .i64 t.kind,.string ⟨t.text.toArray⟩,.int .i64 t.n,.int .i64 t.at_] 55));have hB3:Below w2.heap.size w2 w3:=by rw[<-hw3];exact qAa _ _
  have t2:w3.cell? ⟨w2.heap.size,2,none⟩=some (.int .i64 t.n):=by rw[<-hw3];simp
  have t3:w3.cell? ⟨w2.heap.size,3,none⟩=some (.int .i64 t.at_):=by rw[<-hw3];simp
  have hz3:w2.heap.size<w3.heap.size:=by rw[<-hw3];simp
  have HO3:=hZ ((qAg.of_below (S:=fun _=>False) hB3).own HO2.o (fun _ _ h=>h));have HU3:=hZ (HU2.o.kp (KpX.of_below (X:=[]) hB3) (by simp));have HY3:=hZ (HY2.o.kp (KpX.of_below (X:=[]) hB3) (by simp) (by simp));have HK3:=hZ (HK2.o.trans (qAg.of_below hB3));have HR3:=hZ (HR2.o.below hB3);have hb2:b<w2.heap.size:=HR2.o.lt;obtain⟨v3,hb3,ht3⟩:=HR3.o;have HC3:=hZ (qAK b N v3 _ l2 2 [58] w3 hb3 ht3);clear hB3 hb3 ht3 HO2 HU2 HY2 HK2 HR2
  go_wp2_with fail
  refine HC3.o.mono ?_;rintro e w4 (⟨t4,l4,h1,rfl,hr4⟩|⟨z,h1,rfl,hr4⟩);rotate_left
  ·have HQ:Hid (qDz l1=.error z):=hZ (by unfold qDz;rw[HT1.o];simp only[h1])
   have HB:=hZ (HK3.o.trans hr4);clear hr4 h1
   go_wp2_with fail
   exact⟨rfl,.inr ⟨z,by unfold qD7;rw[HE.o,qCu,HQ.o];rfl,rfl,HB.o⟩⟩
  have HT4:=hZ h1;have hl4:=qAu h1;have s2:w4.cell? ⟨w2.heap.size,2,none⟩=some (.int .i64 t.n):=(hr4.2.cell (p:=⟨w2.heap.size,2,none⟩) (by simp;omega) hz3).trans t2;have s3:w4.cell? ⟨w2.heap.size,3,none⟩=some (.int .i64 t.at_):=(hr4.2.cell (p:=⟨w2.heap.size,3,none⟩) (by simp;omega) hz3).trans t3;have HO4:=hZ (hr4.2.own HO3.o (fun k hk he=>by have:=(HO3.o.lt k hk).1;omega));have HU4:=hZ (HU3.o.kp (HR3.o.kpx hr4.2) (by decide));have HY4:=hZ (HY3.o.kr (HR3.o.kpx hr4.2));have HK4:=hZ (HK3.o.trans hr4.2);have HR4:Hid (Rdr w4 b N l4 _):=hZ hr4.1;clear hr4 h1 HO3 HU3 HY3 HK3 HR3 t2 t3 hw3 HC3 HC;unfold qEW;obtain⟨w5,hw5⟩:=eX (w4.alloc (.cells #[.int .i64 t.n,.string ⟨#[]⟩,.int .i64 t.at_] 68));have hB5:Below w4.heap.size w4 w5:=by rw[<-hw5];exact qAa _ _
  have HO5:=hZ ((qAg.of_below (S:=fun _=>False) hB5).own HO4.o (fun _ _ h=>h));have HU5:=hZ (HU4.o.kp (KpX.of_below (X:=[]) hB5) (by simp));have HY5:=hZ (HY4.o.kp (KpX.of_below (X:=[]) hB5) (by simp) (by simp));have HK5:=hZ (HK4.o.trans (qAg.of_below hB5));have HR5:=hZ (HR4.o.below hB5);have HW5:Hid (w5.ownsRow w4.heap.size 68 3 (.slice (some ⟨w4.heap.size,0,none⟩) 1 1) 1 (prC ⟨t.n,[],t.at_⟩)):=hZ (by rw[<-hw5];exact qIi w4 68 (prC ⟨t.n,[],t.at_⟩) 3 w4.heap.size rfl (Nat.le_refl _));obtain⟨v5,hb5,ht5⟩:=HR5.o;have HC5:=hZ (qEh b N v5 _ l4 1 [] w5 hb5 ht5);have H45:=hZ (KpX.of_below (X:=[96]) hB5);have hz5:w4.heap.size<w5.heap.size:=by rw[<-hw5];simp
  have hb4:b<w4.heap.size:=HR4.o.lt;have HK4s:=hZ HK4.o.size;clear hB5 hb5 ht5 HO4 HK4 HR4;have hl14:l4.length+2=l1.length:=by omega
  by_cases hi:isT 1 [] l4=true
  ·rw[hi]at HC5
   have Hi:=hZ hi;have HC6:=hZ (qDQ b N _ l4 w5 HR5.o (by have:=HL.o;omega));clear hi
   go_wp2_with fail
   clear hw5 s2 s3;refine HC5.o.mono ?_;rintro e w' ⟨rfl,rfl⟩
   go_wp2_with fail
   refine HC6.o.mono ?_;rintro e w6 (⟨x,l6,u,h1,rfl,hp,hr6⟩|⟨z,h1,rfl,hr6⟩);rotate_left
   ·have HQ:Hid (qDz l1=.error z):=hZ (by unfold qDz;rw[HT1.o];simp only[HT4.o,Hi.o,if_true,h1])
    have HB:=hZ (HK5.o.trans hr6);clear hr6 h1
    go_wp2_with fail
    exact⟨rfl,.inr ⟨z,by unfold qD7;rw[HE.o,qCu,HQ.o];rfl,rfl,HB.o⟩⟩
   have HQ:Hid (qDz l1=.ok (⟨t.n,[],t.at_⟩::x,l6)):=hZ (by unfold qDz;rw[HT1.o];simp only[HT4.o,Hi.o,if_true,h1]);have HLr:Hid (l6.length<l1.length):=hZ (by have:=qC1 _ l4 (Nat.le_refl _) h1;omega);have hxl:x.length<=100000:=by have:=qHq l4.length l4 (Nat.le_refl _) h1;have:=HL.o;omega
   have hxne:=qJi h1;have HO6:=hZ (hr6.2.own HO5.o (fun k hk he=>by have:=(HO5.o.lt k hk).1;omega));have HU6:=hZ (HU5.o.kp (HR5.o.kpx hr6.2) (by decide));have HY6:=hZ (HY5.o.kr (HR5.o.kpx hr6.2));have HK6:=hZ (HK5.o.trans hr6.2);have H56:=hZ hr6.2.size;have HW6:=hZ (hr6.2.own HW5.o (fun k hk he=>by have:=(HW5.o.lt k hk).1;omega));have HR6:Hid (Rdr w6 b N l6 _):=hZ hr6.1;have H46:=hZ (H45.o.trans (HR5.o.kpx hr6.2));clear HO5 HU5 HY5 HK5 HW5 HR5 HC6 HC5 h1 hr6 H45;obtain⟨au,cu,rfl, -,-⟩:=TSl.form hp;obtain⟨ad,rfl, -,hcs⟩:=TSl.flat hp (fun x=>rfl) (by decide) hxne;have hz6:w4.heap.size<=w6.heap.size:=Nat.le_trans (Nat.le_of_lt hz5) H56.o
   go_wp2_with (at_builtin;refine qCF (W0:=w6) qJ1 rfl _ _ rfl _ _ _ rfl ad x.length cu (x.flatMap prC) rfl (qFS x) hcs (qKb x) HW6.o (Below.refl _ _) hz6 (by omega) (by omega) ?_)
   intro v7 w7 HW7 HB7 HF7;have HX7:=hZ (KpX.own (X:=[68]) HW6.o HF7.o (by simp));have H47:=hZ (H46.o.behind HB7.o);have HO7:=hZ (qBJ HO6.o HX7.o (by decide));have HU7:=hZ (HU4.o.kp H47.o (by decide));have HY7:=hZ (HY4.o.kr H47.o);have HK7:=hZ (HK6.o.behind (HB7.o.mono HK4s.o));have HR7:=hZ (HR6.o.kp HX7.o (by decide) (by decide));have HP7:Hid (qAD 68 w7 v7 (⟨t.n,[],t.at_⟩::x)):=hZ (qAD.of_own (base:=w4.heap.size) (by rw[List.length_cons,List.flatMap_cons,Nat.add_comm];exact HW7.o));obtain⟨a7,c7,hv7, -,-⟩:=TSl.form HP7.o;rw[List.length_cons]at hv7;subst hv7;clear HW7 HB7 HF7 HX7 H47 H46 HU4 HY4 HW6 HO6 HU6 HY6 HK6 HR6 hp hcs hxne hxl;have hac:acc.length<=100000:=by have:=HL.o;omega
   obtain⟨va,hba,hta⟩:=HR7.o;have c:w7.cell? ⟨b,17,none⟩=some v:=hba.cell 17;have f:=hba.frozen 17;have hlw:b<w7.heap.size:=hba.lt;clear hba hta
   go_wp2_with (at_builtin;refine qA5 (W0:=w7) qGw rfl _ _ rfl [.slice a7 (x.length+1) c7] 58 _ _ _ rfl rfl rfl (by simp[Value.oneCell']) HO7.o (Below.refl _ _) HK7.o.size (by omega) (by omega) ?_)
   intro g8 cap8 w8 HO8 HB8 HW8 hcap8 hat8;have HX8:=hZ (KpX.own (X:=[58]) HO7.o HW8.o (by simp));have HR8:=hZ (HR7.o.kp HX8.o (by decide) (by decide));have HU8:=hZ ((HU7.o.kp HX8.o (by decide)).snoc (HP7.o.kp HX8.o (by decide)));have HY8:=hZ (HY7.o.kp HX8.o (by decide) (by decide));have HK8:=hZ (HK7.o.behind HB8.o);clear HO7 HR7 HU7 HY7 HK7 HX8 HB8 HW8 hat8 c f;obtain⟨v8,hb8,ht8⟩:=HR8.o;have c:w8.cell? ⟨b,17,none⟩=some v:=hb8.cell 17;have f:=hb8.frozen 17;obtain⟨acc',ha'⟩:∃acc',acc'=acc++[⟨t.n,[],t.at_⟩::x]:=⟨_,rfl⟩;have hal:acc.length+1=acc'.length:=by rw[ha'];simp
   rw[<-ha']at HU8;rw[hal]at HO8 ⊢;have Ha:=hZ ha';have Hal:=hZ hal;clear ha' hal hac;have HS:=hZ (hb8.setOk ht8 15 (.slice (some ⟨g8,0,none⟩) acc'.length cap8));obtain⟨w9,hw9⟩:=eX (w8.setCell ⟨b,17,none⟩ (.slice (some ⟨g8,0,none⟩) acc'.length cap8));rw[show(15+2:Nat)=17 from rfl,hw9]at HS;have HX9:=hZ (hb8.kpx HS.o.2);have HO9:=hZ (HS.o.2.own HO8.o (fun k hk he=>by have:=(HO8.o.lt k hk).1;omega));have HU9:=hZ (HU8.o.kp HX9.o (by decide));have HY9:=hZ (HY8.o.kr HX9.o);have HK9:=hZ (HK8.o.trans HS.o.2);obtain⟨v9,hb9,ht9⟩:=HS.o.1;have HC9:=hZ (qCy b N v9 _ l6 [43] w9 hb9 ht9);have HR9:Hid (Rdr w9 b N l6 (dcC d { y with r:=.slice (some ⟨g8,0,none⟩) acc'.length cap8 })):=hZ ⟨v9,hb9,ht9⟩;clear hb8 ht8 HS HX9 HO8 HU8 HY8 HK8 HR8 hb9 ht9;have HE9:=hZ (qCu f1 l1);rw[HQ.o]at HE9;by_cases hs:isT 2 [43] l6=true
   ·simp only[hs,if_true]at HE9
    unfold qIT at HC9;rw[hs,if_pos rfl]at HC9;clear hs
    go_wp2_with fail
    refine HC9.o.mono ?_;rintro e w10 ⟨rfl,hr10⟩;have HO10:=hZ (hr10.2.own HO9.o (fun k hk he=>by have:=(HO9.o.lt k hk).1;omega));have HU10:=hZ (HU9.o.kp (HR9.o.kpx hr10.2) (by decide));have HY10:=hZ (HY9.o.kr (HR9.o.kpx hr10.2));have HK10:=hZ (HK9.o.trans hr10.2);have HR10:Hid (Rdr w10 b N _ _):=hZ hr10.1;clear hr10 HC9 HR9 HK9 HO9 HU9 HY9 hw9 c f
    go_wp2_with fail
    go_roundw
    case rel=>
     obtain⟨f2,rfl⟩:∃f2,f1=f2+1:=⟨f1-1,by have:=HL.o;have:=HLr.o;omega⟩;exact⟨acc',_,_,f2,_,hZ (by rw[HE.o,HE9.o,qDP,Ha.o]),hZ (by have:=HL.o;have:=HLr.o;have:=Hal.o;simp;omega),HR10,HO10,HU10,HY10,HK10⟩
    case measure=>
     rw[HR10.o.len,HR1.o.len];have:=HLr.o;simp;omega
   ·rw[Bool.not_eq_true]at hs
    simp only[hs]at HE9;unfold qIT at HC9;rw[hs,if_neg (by simp)]at HC9;clear hs
    go_wp2_with fail
    refine HC9.o.mono ?_;rintro e w10 ⟨rfl,hr10⟩;have HO10:=hZ (hr10.2.own HO9.o (fun k hk he=>by have:=(HO9.o.lt k hk).1;omega));have HU10:=hZ (HU9.o.kp (HR9.o.kpx hr10.2) (by decide));have HY10:=hZ (HY9.o.kr (HR9.o.kpx hr10.2));have HK10:=hZ (HK9.o.trans hr10.2);have HR10:Hid (Rdr w10 b N _ _):=hZ hr10.1;clear hr10 HC9 HR9 HK9 HO9 HU9 HY9 hw9 c f
    go_wp2_with fail
    go_end0
    refine .inl ⟨{ d with rows:=acc' },_,_,by unfold qD7;rw[HE.o,HE9.o];rw[Ha.o];rfl,rfl,⟨{ y with r:=.slice (some ⟨g8,0,none⟩) acc'.length cap8 },rfl,HY10.o.t,HY10.o.g,HY10.o.b,HU10.o.rows HO10.o,HY10.o.x⟩,HR10.o,HK10.o⟩
  ·rw[Bool.not_eq_true]at hi
   rw[hi]at HC5;have HQ:Hid (qDz l1=.ok ([⟨t.n,[],t.at_⟩],l4)):=hZ (by unfold qDz;rw[HT1.o];simp only[HT4.o,hi];rfl);have HLr:Hid (l4.length<l1.length):=hZ (by omega);have HP5:Hid (qAD 68 w5 _ [⟨t.n,[],t.at_⟩]):=hZ (qAD.of_own (base:=w4.heap.size) (by simpa using HW5.o));clear hi HU4 HY4 HW5 H45
   go_wp2_with fail
   clear hw5 s2 s3;refine HC5.o.mono ?_;rintro e w' ⟨rfl,rfl⟩;have hac:acc.length<=100000:=by have:=HL.o;omega
   obtain⟨va,hba,hta⟩:=HR5.o;have c:w'.cell? ⟨b,17,none⟩=some v:=hba.cell 17;have f:=hba.frozen 17;have hlw:b<w'.heap.size:=hba.lt;clear hba hta
   go_wp2_with (at_builtin;refine qA5 (W0:=w') qGw rfl _ _ rfl [.slice (some ⟨w4.heap.size,0,none⟩) 1 1] 58 _ _ _ rfl rfl rfl (by simp[Value.oneCell']) HO5.o (Below.refl _ _) HK5.o.size (by omega) (by omega) ?_)
   intro g8 cap8 w8 HO8 HB8 HW8 hcap8 hat8;have HX8:=hZ (KpX.own (X:=[58]) HO5.o HW8.o (by simp));have HR8:=hZ (HR5.o.kp HX8.o (by decide) (by decide));have HU8:=hZ ((HU5.o.kp HX8.o (by decide)).snoc (HP5.o.kp HX8.o (by decide)));have HY8:=hZ (HY5.o.kp HX8.o (by decide) (by decide));have HK8:=hZ (HK5.o.behind HB8.o);clear HO5 HR5 HU5 HY5 HK5 HX8 HB8 HW8 hat8 c f;obtain⟨v8,hb8,ht8⟩:=HR8.o;have c:w8.cell? ⟨b,17,none⟩=some v:=hb8.cell 17;have f:=hb8.frozen 17;obtain⟨acc',ha'⟩:∃acc',acc'=acc++[[⟨t.n,[],t.at_⟩]]:=⟨_,rfl⟩;have hal:acc.length+1=acc'.length:=by rw[ha'];simp
   rw[<-ha']at HU8;rw[hal]at HO8 ⊢;have Ha:=hZ ha';have Hal:=hZ hal;clear ha' hal hac;have HS:=hZ (hb8.setOk ht8 15 (.slice (some ⟨g8,0,none⟩) acc'.length cap8));obtain⟨w9,hw9⟩:=eX (w8.setCell ⟨b,17,none⟩ (.slice (some ⟨g8,0,none⟩) acc'.length cap8));rw[show(15+2:Nat)=17 from rfl,hw9]at HS;have HX9:=hZ (hb8.kpx HS.o.2);have HO9:=hZ (HS.o.2.own HO8.o (fun k hk he=>by have:=(HO8.o.lt k hk).1;omega));have HU9:=hZ (HU8.o.kp HX9.o (by decide));have HY9:=hZ (HY8.o.kr HX9.o);have HK9:=hZ (HK8.o.trans HS.o.2);obtain⟨v9,hb9,ht9⟩:=HS.o.1;have HC9:=hZ (qCy b N v9 _ l4 [43] w9 hb9 ht9);have HR9:Hid (Rdr w9 b N l4 (dcC d { y with r:=.slice (some ⟨g8,0,none⟩) acc'.length cap8 })):=hZ ⟨v9,hb9,ht9⟩;clear hb8 ht8 HS HX9 HO8 HU8 HY8 HK8 HR8 hb9 ht9;have HE9:=hZ (qCu f1 l1);rw[HQ.o]at HE9;by_cases hs:isT 2 [43] l4=true
   ·simp only[hs,if_true]at HE9
    unfold qIT at HC9;rw[hs,if_pos rfl]at HC9;clear hs
    go_wp2_with fail
    refine HC9.o.mono ?_;rintro e w10 ⟨rfl,hr10⟩;have HO10:=hZ (hr10.2.own HO9.o (fun k hk he=>by have:=(HO9.o.lt k hk).1;omega));have HU10:=hZ (HU9.o.kp (HR9.o.kpx hr10.2) (by decide));have HY10:=hZ (HY9.o.kr (HR9.o.kpx hr10.2));have HK10:=hZ (HK9.o.trans hr10.2);have HR10:Hid (Rdr w10 b N _ _):=hZ hr10.1;clear hr10 HC9 HR9 HK9 HO9 HU9 HY9 hw9 c f
    go_wp2_with fail
    go_roundw
    case rel=>
     obtain⟨f2,rfl⟩:∃f2,f1=f2+1:=⟨f1-1,by have:=HL.o;have:=HLr.o;omega⟩;exact⟨acc',_,_,f2,_,hZ (by rw[HE.o,HE9.o,qDP,Ha.o]),hZ (by have:=HL.o;have:=HLr.o;have:=Hal.o;simp;omega),HR10,HO10,HU10,HY10,HK10⟩
    case measure=>
     rw[HR10.o.len,HR1.o.len];have:=HLr.o;simp;omega
   ·rw[Bool.not_eq_true]at hs
    simp only[hs]at HE9;unfold qIT at HC9;rw[hs,if_neg (by simp)]at HC9;clear hs
    go_wp2_with fail
    refine HC9.o.mono ?_;rintro e w10 ⟨rfl,hr10⟩;have HO10:=hZ (hr10.2.own HO9.o (fun k hk he=>by have:=(HO9.o.lt k hk).1;omega));have HU10:=hZ (HU9.o.kp (HR9.o.kpx hr10.2) (by decide));have HY10:=hZ (HY9.o.kr (HR9.o.kpx hr10.2));have HK10:=hZ (HK9.o.trans hr10.2);have HR10:Hid (Rdr w10 b N _ _):=hZ hr10.1;clear hr10 HC9 HR9 HK9 HO9 HU9 HY9 hw9 c f
    go_wp2_with fail
    go_end0
    refine .inl ⟨{ d with rows:=acc' },_,_,by unfold qD7;rw[HE.o,HE9.o];rw[Ha.o];rfl,rfl,⟨{ y with r:=.slice (some ⟨g8,0,none⟩) acc'.length cap8 },rfl,HY10.o.t,HY10.o.g,HY10.o.b,HU10.o.rows HO10.o,HY10.o.x⟩,HR10.o,HK10.o⟩
theorem qGx:qDT Tryd.prog 30 74 3 32:=qDT.mk (z:=.agg #[.int .i64 0,.string ⟨#[]⟩,.int .i64 0]) Tryd.underlying30 (by kernel_rfl) rfl (by decide)
def qCe(w:World)(v:Value)(l:List Bs):Prop:=TSl 9 1 (fun _ x cs=>cs=[.string ⟨x.toArray⟩]) w v l
theorem qCe.kp{X:List TypeId}{w w':World}{v:Value}{l:List Bs}(h:qCe w v l)(hk:KpX X w w')(he:9∉X):qCe w' v l:=TSl.kp h hk he (fun _ _ h=>h)
end Go.Proofs.YtpmnbcdjoomgcaaDoor
