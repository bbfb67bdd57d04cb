/- The parser's deferred function: it catches a failure. -/
import Derived.Test.YtpmnbcdjoomgcaaDoorQAPOpts
import Derived.Deep.Cut
import Derived.Defers
import Derived.Recover
import Derived.Laws.Pointers
set_option linter.unusedVariables false
set_option linter.unusedSimpArgs false
set_option maxHeartbeats 4000000
set_option maxRecDepth 100000
namespace Go.Proofs.YtpmnbcdjoomgcaaDoor
open Go.RowKit
def fgN:Fg->Nat
 |.object=>36|.mixed=>37|.coin=>38|.wear=>39|.bind=>40
 |.level=>41|.time=>42|.chance=>43
 |.take=>44|.give=>45|.back=>46
theorem qID(x:Fg)(args:Array Value)(w:World):(callFunc (fgN x) args).run Tryd.prog w=.ok (.enter (fgN x) args) w:=by cases x<;>simp[fgN,go_sem]
theorem qKm(x:Fg)(b N:Nat)(cs:List Value)(d:Dc)(l:List Tok)(w:World)(hr:Rdr w b N l cs)(hd:DPar w cs d)(hl:l.length<=100000):Calls Tryd.prog (fgN x) #[.pointer (some ⟨b,0,none⟩)] w (qBj b N (pFg x d l) w):=by
 cases x
 ·exact qHw b N cs d l w hr hd hl
 ·exact qIn b N cs d l w hr hd hl
 ·exact qJJ b N cs d l w hr hd hl
 ·exact qI0 b N cs d l w hr hd hl
 ·exact qJN b N cs d l w hr hd hl
 ·exact qIs b N cs d l w hr hd hl
 ·exact qI4 b N cs d l w hr hd hl
 ·exact qHL b N cs d l w hr hd hl
 ·exact qI6 b N cs d l w hr hd hl
 ·exact qJD b N cs d l w hr hd hl
 ·exact qJO b N cs d l w hr hd hl
theorem qFa(known:List Fg)(b N bm:Nat)(cs:List Value)(d:Dc)(l:List Tok)(w:World)(hr:Rdr w b N l cs)(hd:DPar w cs d)(hl:l.length<=100000)(hm:qB6 w bm (qCj fgN b known))(hbm:bm≠b):
 Calls Tryd.prog 75 #[.pointer (some ⟨b,0,none⟩),.map (some bm)] w (qBj b N (qAX known (l.length+1) [] d l) w):=
 qGj known fgN b N bm cs d l w hr hd hl hm hbm (fun x _ args w=>qID x args w) (fun x _ cs d l w h1 h2 h3=>qKm x b N cs d l w h1 h2 h3)
theorem qFG{l:List Tok}{k:Nat}(h:qBP l=some k):k<5/\∃t,qAR 0 [] l=.ok (t,l.drop 1):=by
 rw[qGO]at h;have word:∀s:Bs,isT 0 s l=true->∃t,qAR 0 [] l=.ok (t,l.drop 1):=by
  intro s h;cases l with
  |nil=>cases h
  |cons t l=>
   have h':t.is 0 s=true:=h;have h2:t.is 0 []=true:=by
    unfold Tok.is at h' ⊢;simp at h' ⊢;exact h'.1
   exact⟨t,by simp only[qAR,if_pos h2,List.drop_succ_cons,List.drop_zero]⟩
 split at h
 ·next h1=>cases h;exact⟨by omega,word _ h1⟩
 ·split at h
  ·next h1=>cases h;exact⟨by omega,word _ h1⟩
  ·split at h
   ·next h1=>cases h;exact⟨by omega,word _ h1⟩
   ·split at h
    ·next h1=>cases h;exact⟨by omega,word _ h1⟩
    ·split at h
     ·next h1=>cases h;exact⟨by omega,word _ h1⟩
     ·cases h
def ls0:Ls:=⟨.slice none 0 0,.slice none 0 0,.slice none 0 0,.slice none 0 0,.slice none 0 0⟩
theorem qKf(b:Nat)(w:World)(o:Nat)(v:Value):qAg (fun k=>k=b) w (w.setCell ⟨b,o,none⟩ v):=(qAg.refl (fun k=>k=b) w).set (p:=⟨b,o,none⟩) rfl v
def qIV(w:World)(b:Nat)(k:Int)(x:Bs)(a:Int):World:=(((((((((((((((((w.setCell ⟨b,2,none⟩ (.int .i64 k)).setCell ⟨b,3,none⟩ (.string ⟨x.toArray⟩)).setCell ⟨b,4,none⟩ (.int .i64 a)).setCell ⟨b,5,none⟩ (.bool false)).setCell ⟨b,6,none⟩ (.bool false)).setCell ⟨b,7,none⟩ (.bool false)).setCell ⟨b,8,none⟩ (.int .i64 0)).setCell ⟨b,9,none⟩ (.int .i64 0)).setCell ⟨b,10,none⟩ (.int .i64 0)).setCell ⟨b,11,none⟩ (.int .i64 0)).setCell ⟨b,12,none⟩ (.int .i64 0)).setCell ⟨b,13,none⟩ (.int .i64 0)).setCell ⟨b,14,none⟩ (.slice none 0 0)).setCell ⟨b,15,none⟩ (.slice none 0 0)).setCell ⟨b,16,none⟩ (.slice none 0 0)).setCell ⟨b,17,none⟩ (.slice none 0 0)).setCell ⟨b,18,none⟩ (.slice none 0 0))
theorem qKa{w:World}{b N:Nat}{v:Value}{d:Dc}{y:Ls}(h:RdB w b v N (dcC d y))(k:Int)(x:Bs)(a:Int):RdB (qIV w b k x a) b v N (dcC (Dc.zero k x a) ls0):=by
 have h0:RdB w b v N [(.int .i64 d.kind),(.string ⟨d.name.toArray⟩),(.int .i64 d.at_),(.bool d.object),(.bool d.mixed),(.bool d.coin),(.int .i64 d.wear),(.int .i64 d.bind),(.int .i64 d.level),(.int .i64 d.time),(.int .i64 d.chance),(.int .i64 d.of_),y.t,y.g,y.b,y.r,y.x]:=h;have h1:RdB _ b v N [(.int .i64 k),(.string ⟨d.name.toArray⟩),(.int .i64 d.at_),(.bool d.object),(.bool d.mixed),(.bool d.coin),(.int .i64 d.wear),(.int .i64 d.bind),(.int .i64 d.level),(.int .i64 d.time),(.int .i64 d.chance),(.int .i64 d.of_),y.t,y.g,y.b,y.r,y.x]:=h0.setC 0 (.int .i64 k);have h2:RdB _ b v N [(.int .i64 k),(.string ⟨x.toArray⟩),(.int .i64 d.at_),(.bool d.object),(.bool d.mixed),(.bool d.coin),(.int .i64 d.wear),(.int .i64 d.bind),(.int .i64 d.level),(.int .i64 d.time),(.int .i64 d.chance),(.int .i64 d.of_),y.t,y.g,y.b,y.r,y.x]:=h1.setC 1 (.string ⟨x.toArray⟩);have h3:RdB _ b v N [(.int .i64 k),(.string ⟨x.toArray⟩),(.int .i64 a),(.bool d.object),(.bool d.mixed),(.bool d.coin),(.int .i64 d.wear),(.int .i64 d.bind),(.int .i64 d.level),(.int .i64 d.time),(.int .i64 d.chance),(.int .i64 d.of_),y.t,y.g,y.b,y.r,y.x]:=h2.setC 2 (.int .i64 a);have h4:RdB _ b v N [(.int .i64 k),(.string ⟨x.toArray⟩),(.int .i64 a),(.bool false),(.bool d.mixed),(.bool d.coin),(.int .i64 d.wear),(.int .i64 d.bind),(.int .i64 d.level),(.int .i64 d.time),(.int .i64 d.chance),(.int .i64 d.of_),y.t,y.g,y.b,y.r,y.x]:=h3.setC 3 (.bool false);have h5:RdB _ b v N [(.int .i64 k),(.string ⟨x.toArray⟩),(.int .i64 a),(.bool false),(.bool false),(.bool d.coin),(.int .i64 d.wear),(.int .i64 d.bind),(.int .i64 d.level),(.int .i64 d.time),(.int .i64 d.chance),(.int .i64 d.of_),y.t,y.g,y.b,y.r,y.x]:=h4.setC 4 (.bool false);have h6:RdB _ b v N [(.int .i64 k),(.string ⟨x.toArray⟩),(.int .i64 a),(.bool false),(.bool false),(.bool false),(.int .i64 d.wear),(.int .i64 d.bind),(.int .i64 d.level),(.int .i64 d.time),(.int .i64 d.chance),(.int .i64 d.of_),y.t,y.g,y.b,y.r,y.x]:=h5.setC 5 (.bool false);have h7:RdB _ b v N [(.int .i64 k),(.string ⟨x.toArray⟩),(.int .i64 a),(.bool false),(.bool false),(.bool false),(.int .i64 0),(.int .i64 d.bind),(.int .i64 d.level),(.int .i64 d.time),(.int .i64 d.chance),(.int .i64 d.of_),y.t,y.g,y.b,y.r,y.x]:=h6.setC 6 (.int .i64 0);have h8:RdB _ b v N [(.int .i64 k),(.string ⟨x.toArray⟩),(.int .i64 a),(.bool false),(.bool false),(.bool false),(.int .i64 0),(.int .i64 0),(.int .i64 d.level),(.int .i64 d.time),(.int .i64 d.chance),(.int .i64 d.of_),y.t,y.g,y.b,y.r,y.x]:=h7.setC 7 (.int .i64 0);have h9:RdB _ b v N [(.int .i64 k),(.string ⟨x.toArray⟩),(.int .i64 a),(.bool false),(.bool false),(.bool false),(.int .i64 0),(.int .i64 0),(.int .i64 0),(.int .i64 d.time),(.int .i64 d.chance),(.int .i64 d.of_),y.t,y.g,y.b,y.r,y.x]:=h8.setC 8 (.int .i64 0);have h10:RdB _ b v N [(.int .i64 k),(.string ⟨x.toArray⟩),(.int .i64 a),(.bool false),(.bool false),(.bool false),(.int .i64 0),(.int .i64 0),(.int .i64 0),(.int .i64 0),(.int .i64 d.chance),(.int .i64 d.of_),y.t,y.g,y.b,y.r,y.x]:=h9.setC 9 (.int .i64 0);have h11:RdB _ b v N [(.int .i64 k),(.string ⟨x.toArray⟩),(.int .i64 a),(.bool false),(.bool false),(.bool false),(.int .i64 0),(.int .i64 0),(.int .i64 0),(.int .i64 0),(.int .i64 0),(.int .i64 d.of_),y.t,y.g,y.b,y.r,y.x]:=h10.setC 10 (.int .i64 0);have h12:RdB _ b v N [(.int .i64 k),(.string ⟨x.toArray⟩),(.int .i64 a),(.bool false),(.bool false),(.bool false),(.int .i64 0),(.int .i64 0),(.int .i64 0),(.int .i64 0),(.int .i64 0),(.int .i64 0),y.t,y.g,y.b,y.r,y.x]:=h11.setC 11 (.int .i64 0);have h13:RdB _ b v N [(.int .i64 k),(.string ⟨x.toArray⟩),(.int .i64 a),(.bool false),(.bool false),(.bool false),(.int .i64 0),(.int .i64 0),(.int .i64 0),(.int .i64 0),(.int .i64 0),(.int .i64 0),(.slice none 0 0),y.g,y.b,y.r,y.x]:=h12.setC 12 (.slice none 0 0)
 have h14:RdB _ b v N [(.int .i64 k),(.string ⟨x.toArray⟩),(.int .i64 a),(.bool false),(.bool false),(.bool false),(.int .i64 0),(.int .i64 0),(.int .i64 0),(.int .i64 0),(.int .i64 0),(.int .i64 0),(.slice none 0 0),(.slice none 0 0),y.b,y.r,y.x]:=h13.setC 13 (.slice none 0 0);have h15:RdB _ b v N [(.int .i64 k),(.string ⟨x.toArray⟩),(.int .i64 a),(.bool false),(.bool false),(.bool false),(.int .i64 0),(.int .i64 0),(.int .i64 0),(.int .i64 0),(.int .i64 0),(.int .i64 0),(.slice none 0 0),(.slice none 0 0),(.slice none 0 0),y.r,y.x]:=h14.setC 14 (.slice none 0 0);have h16:RdB _ b v N [(.int .i64 k),(.string ⟨x.toArray⟩),(.int .i64 a),(.bool false),(.bool false),(.bool false),(.int .i64 0),(.int .i64 0),(.int .i64 0),(.int .i64 0),(.int .i64 0),(.int .i64 0),(.slice none 0 0),(.slice none 0 0),(.slice none 0 0),(.slice none 0 0),y.x]:=h15.setC 15 (.slice none 0 0);have h17:RdB _ b v N [(.int .i64 k),(.string ⟨x.toArray⟩),(.int .i64 a),(.bool false),(.bool false),(.bool false),(.int .i64 0),(.int .i64 0),(.int .i64 0),(.int .i64 0),(.int .i64 0),(.int .i64 0),(.slice none 0 0),(.slice none 0 0),(.slice none 0 0),(.slice none 0 0),(.slice none 0 0)]:=h16.setC 16 (.slice none 0 0);exact h17
theorem qHW(w:World)(b:Nat)(k:Int)(x:Bs)(a:Int):qAg (fun k=>k=b) w (qIV w b k x a):=by
 unfold qIV
 repeat (refine qAg.trans ?_ (qKf _ _ _ _))
 exact qAg.refl _ _
theorem qEm(b N bf bp:Nat)(cs:List Value)(d:Dc)(l:List Tok)(w:World)(hr:Rdr w b N l cs)(hd:DPar w cs d)(hl:l.length<=100000)(hf:qB6 w bf (qCj fgN b qCb))(hp:qB6 w bp (qCj fgN b qBI))(hbf:bf≠b)(hbp:bp≠b):
 Calls Tryd.prog 47 #[.pointer (some ⟨b,0,none⟩),.map (some bf),.map (some bp)] w (qBj b N (qBl l) w):=by
 have HR:=hZ hr;have HD:=hZ hd;have HMf:=hZ hf;have HMp:=hZ hp;have HC:=hZ (qJz b N cs l w hr);have hlt:=hr.lt;have H0:=hZ hl;clear hr hd hf hp hl
 go_enter Tryd.func47,Tryd.ntmps47
 go_wp2_with fail
 refine HC.o.mono ?_;rintro e w1 (⟨k,h1,rfl,rfl⟩|⟨h1,rfl,rfl⟩);rotate_left
 ·have HQ:Hid (qBl l=.error l):=hZ (by unfold qBl;rw[h1])
  clear h1
  go_wp2_with fail
  exact⟨rfl,.inr ⟨l,HQ.o,rfl,qAg.refl _ _⟩⟩
 obtain⟨hk5,t0,ht0⟩:=qFG h1;have HKd:=hZ h1;have HT0:=hZ ht0;obtain⟨v1,hb1,htk1⟩:=HR.o;have HC1:=hZ (qAK b N v1 _ l 0 [] w1 hb1 htk1);clear h1 ht0 hb1 htk1 HC
 go_wp2_with fail
 refine HC1.o.mono ?_;rintro e w2 (⟨t,l2,h1,rfl,hr2⟩|⟨z,h1,rfl,hr2⟩);rotate_left
 ·rw[HT0.o]at h1;cases h1
 rw[HT0.o]at h1;injection h1 with h1;injection h1 with h1 h1';subst h1 h1';have HR2:Hid (Rdr w2 b N (l.drop 1) cs):=hZ hr2.1;have HD2:=hZ (DPar.kr HD.o (HR.o.kpx hr2.2));have HMf2:=hZ (HMf.o.only hr2.2 hbf);have HMp2:=hZ (HMp.o.only hr2.2 hbp);have HK2:=hZ hr2.2;obtain⟨v2,hb2,htk2⟩:=HR2.o;have HC2:=hZ (qAK b N v2 _ (l.drop 1) 0 [] w2 hb2 htk2);clear hr2 hb2 htk2 HC1 HR HD HMf HMp;unfold qEW
 go_wp2_with fail
 refine HC2.o.mono ?_;rintro e w3 (⟨t3,l3,h1,rfl,hr3⟩|⟨z,h1,rfl,hr3⟩);rotate_left
 ·have HQ:Hid (qBl l=.error z):=hZ (by unfold qBl;rw[HKd.o];simp only[h1])
  have HB:=hZ (HK2.o.trans hr3);clear h1 hr3
  go_wp2_with fail
  exact⟨rfl,.inr ⟨z,HQ.o,rfl,HB.o⟩⟩
 have HT3:=hZ h1;have HR3:Hid (Rdr w3 b N l3 cs):=hZ hr3.1;have HD3:=hZ (DPar.kr HD2.o (HR2.o.kpx hr3.2));have HMf3:=hZ (HMf2.o.only hr3.2 hbf);have HMp3:=hZ (HMp2.o.only hr3.2 hbp);have HK3:=hZ (HK2.o.trans hr3.2);obtain⟨y,hy0,hy⟩:=HD3.o;subst hy0;obtain⟨v3,hb3,htk3⟩:=HR3.o;have c2:=hb3.cell 2;have c3:=hb3.cell 3;have c4:=hb3.cell 4;have c5:=hb3.cell 5;have c6:=hb3.cell 6;have c7:=hb3.cell 7;have c8:=hb3.cell 8;have c9:=hb3.cell 9;have c10:=hb3.cell 10;have c11:=hb3.cell 11;have c12:=hb3.cell 12;have c13:=hb3.cell 13;have c14:=hb3.cell 14;have c15:=hb3.cell 15;have c16:=hb3.cell 16;have c17:=hb3.cell 17;have c18:=hb3.cell 18;have f:=hb3.frozen;simp[dcC]at c2 c3 c4 c5 c6 c7 c8 c9 c10 c11 c12 c13 c14 c15 c16 c17 c18;have hlw:=hb3.lt;obtain⟨T4,hT4⟩:=eX ((Obj.cells #[.int .i64 t3.kind,.string ⟨t3.text.toArray⟩,.int .i64 t3.n,.int .i64 t3.at_] 55));have hO4:qAg (fun k=>k=b) w3 ((qIV w3 b k t3.text t3.at_).alloc T4):=(qHW _ _ _ _ _).trans (qAg.of_below (qAa _ _));have hb4:RdB ((qIV w3 b k t3.text t3.at_).alloc T4) b v3 N (dcC (Dc.zero k t3.text t3.at_) ls0):=(qKa hb3 _ _ _).below (qAa _ _);have HR4:Hid (Rdr ((qIV w3 b k t3.text t3.at_).alloc T4) b N l3 (dcC (Dc.zero k t3.text t3.at_) ls0)):=hZ ⟨v3,hb4,htk3.kp (hb3.kpx hO4) (by decide)⟩;have HMf4:=hZ (HMf3.o.only hO4 hbf);have HMp4:=hZ (HMp3.o.only hO4 hbp);have HK4:=hZ (HK3.o.trans hO4);have HLs:Hid (LPar ((qIV w3 b k t3.text t3.at_).alloc T4) (Dc.zero k t3.text t3.at_) ls0):=hZ ⟨TSl.nil _ _ (by omega),TSl.nil _ _ (by omega),TSl.nil _ _ (by omega),TSl.nil _ _ (by omega),TSl.nil _ _ (by omega)⟩;have HD4:Hid (DPar ((qIV w3 b k t3.text t3.at_).alloc T4) _ (Dc.zero k t3.text t3.at_)):=hZ ⟨ls0,rfl,HLs.o⟩;have hl3:l3.length<=100000:=by have:=H0.o;have:=qAu h1;simp at this;omega
 clear h1 hr3 hy hb3 htk3 HC2 HR2 HD2 HMf2 HMp2 HK2 hO4 hb4 HR3 HD3 HMf3 HMp3 HK3;unfold qEW;have key:∀x:Rd Dc,qA7 k (Dc.zero k t3.text t3.at_) l3=x->qBl l=match x with|.error z=> .error z|.ok (d,l3)=>match qAR 2 [59] l3 with|.error z=> .error z|.ok (_,l4)=> .ok (d,l4):=by
  intro x hx;unfold qBl;rw[HKd.o];simp only[HT3.o,hx];cases x with
  |error z=>rfl
  |ok y=>rfl
 have Key:=hZ key;clear key;subst hT4
 go_upto_if 24 with fail
 clear c2 c3 c4 c5 c6 c7 c8 c9 c10 c11 c12 c13 c14 c15 c16 c17 c18 f
 change Code.wp _ _ _ _ ((qIV w3 b k t3.text t3.at_).alloc (Obj.cells #[.int .i64 t3.kind,.string ⟨t3.text.toArray⟩,.int .i64 t3.n,.int .i64 t3.at_] 55))
 obtain⟨w4,hw4⟩:=eX ((qIV w3 b k t3.text t3.at_).alloc (Obj.cells #[.int .i64 t3.kind,.string ⟨t3.text.toArray⟩,.int .i64 t3.n,.int .i64 t3.at_] 55));rw[hw4]at HR4 HMf4 HMp4 HK4 HLs HD4;rw[hw4];clear hw4;have h5:k=0\/k=1\/k=2\/k=3\/k=4:=by omega
 clear hk5;rcases h5 with rfl|rfl|rfl|rfl|rfl
 ·skip
  have HCk:=hZ (qFa qCb b N bf _ _ l3 _ HR4.o HD4.o hl3 HMf4.o hbf);have HBk:Hid (qA7 0 (Dc.zero (0:Nat) t3.text t3.at_) l3=qAX qCb (l3.length+1) [] (Dc.zero (0:Nat) t3.text t3.at_) l3):=hZ (by unfold qA7;rfl);clear HMf4 HMp4 HLs
  go_wp2_with fail
  refine HCk.o.mono ?_;rintro e w5 (⟨d5,l5,cs5,h1,rfl,hd5,hr5⟩|⟨z,h1,rfl,hr5⟩);rotate_left
  ·have HQ:Hid (qBl l=.error z):=hZ (by rw[Key.o _ (HBk.o.trans h1)])
   have HB:=hZ (HK4.o.trans hr5);clear h1 hr5
   go_wp2_with fail
   exact⟨rfl,.inr ⟨z,HQ.o,rfl,HB.o⟩⟩
  have HQ:=hZ (Key.o _ (HBk.o.trans h1));have HD5:=hZ hd5;have HR5:Hid (Rdr w5 b N l5 cs5):=hZ hr5.1;have HK5:=hZ (HK4.o.trans hr5.2);obtain⟨v5,hb5,htk5⟩:=HR5.o;have HC5:=hZ (qAK b N v5 _ l5 2 [59] w5 hb5 htk5);clear h1 hd5 hr5 hb5 htk5 HCk HBk Key HD4 HR4 HK4
  go_wp2_with fail
  refine HC5.o.mono ?_;rintro e w6 (⟨t6,l6,h1,rfl,hr6⟩|⟨z,h1,rfl,hr6⟩);rotate_left
  ·simp only[h1]at HQ
   have HB:=hZ (HK5.o.trans hr6);clear h1 hr6
   go_wp2_with fail
   exact⟨rfl,.inr ⟨z,HQ.o,rfl,HB.o⟩⟩
  simp only[h1]at HQ;have HR6:=hZ hr6;clear h1 hr6;unfold qEW
  go_wp2_with fail
  go_end0
  exact .inl ⟨d5,l6,cs5,HQ.o,rfl,DPar.kr HD5.o (HR5.o.kpx HR6.o.2),qBc HR6.o HK5.o⟩
 ·skip
  have HCk:=hZ (qFa qBI b N bp _ _ l3 _ HR4.o HD4.o hl3 HMp4.o hbp);have HBk:Hid (qA7 1 (Dc.zero (1:Nat) t3.text t3.at_) l3=qAX qBI (l3.length+1) [] (Dc.zero (1:Nat) t3.text t3.at_) l3):=hZ (by unfold qA7;rfl);clear HMf4 HMp4 HLs
  go_wp2_with fail
  refine HCk.o.mono ?_;rintro e w5 (⟨d5,l5,cs5,h1,rfl,hd5,hr5⟩|⟨z,h1,rfl,hr5⟩);rotate_left
  ·have HQ:Hid (qBl l=.error z):=hZ (by rw[Key.o _ (HBk.o.trans h1)])
   have HB:=hZ (HK4.o.trans hr5);clear h1 hr5
   go_wp2_with fail
   exact⟨rfl,.inr ⟨z,HQ.o,rfl,HB.o⟩⟩
  have HQ:=hZ (Key.o _ (HBk.o.trans h1));have HD5:=hZ hd5;have HR5:Hid (Rdr w5 b N l5 cs5):=hZ hr5.1;have HK5:=hZ (HK4.o.trans hr5.2);obtain⟨v5,hb5,htk5⟩:=HR5.o;have HC5:=hZ (qAK b N v5 _ l5 2 [59] w5 hb5 htk5);clear h1 hd5 hr5 hb5 htk5 HCk HBk Key HD4 HR4 HK4
  go_wp2_with fail
  refine HC5.o.mono ?_;rintro e w6 (⟨t6,l6,h1,rfl,hr6⟩|⟨z,h1,rfl,hr6⟩);rotate_left
  ·simp only[h1]at HQ
   have HB:=hZ (HK5.o.trans hr6);clear h1 hr6
   go_wp2_with fail
   exact⟨rfl,.inr ⟨z,HQ.o,rfl,HB.o⟩⟩
  simp only[h1]at HQ;have HR6:=hZ hr6;clear h1 hr6;unfold qEW
  go_wp2_with fail
  go_end0
  exact .inl ⟨d5,l6,cs5,HQ.o,rfl,DPar.kr HD5.o (HR5.o.kpx HR6.o.2),qBc HR6.o HK5.o⟩
 ·skip
  have HCk:=hZ (qFa qBI b N bp _ _ l3 _ HR4.o HD4.o hl3 HMp4.o hbp);have HBk:Hid (qA7 2 (Dc.zero (2:Nat) t3.text t3.at_) l3=qAX qBI (l3.length+1) [] (Dc.zero (2:Nat) t3.text t3.at_) l3):=hZ (by unfold qA7;rfl);clear HMf4 HMp4 HLs
  go_wp2_with fail
  refine HCk.o.mono ?_;rintro e w5 (⟨d5,l5,cs5,h1,rfl,hd5,hr5⟩|⟨z,h1,rfl,hr5⟩);rotate_left
  ·have HQ:Hid (qBl l=.error z):=hZ (by rw[Key.o _ (HBk.o.trans h1)])
   have HB:=hZ (HK4.o.trans hr5);clear h1 hr5
   go_wp2_with fail
   exact⟨rfl,.inr ⟨z,HQ.o,rfl,HB.o⟩⟩
  have HQ:=hZ (Key.o _ (HBk.o.trans h1));have HD5:=hZ hd5;have HR5:Hid (Rdr w5 b N l5 cs5):=hZ hr5.1;have HK5:=hZ (HK4.o.trans hr5.2);obtain⟨v5,hb5,htk5⟩:=HR5.o;have HC5:=hZ (qAK b N v5 _ l5 2 [59] w5 hb5 htk5);clear h1 hd5 hr5 hb5 htk5 HCk HBk Key HD4 HR4 HK4
  go_wp2_with fail
  refine HC5.o.mono ?_;rintro e w6 (⟨t6,l6,h1,rfl,hr6⟩|⟨z,h1,rfl,hr6⟩);rotate_left
  ·simp only[h1]at HQ
   have HB:=hZ (HK5.o.trans hr6);clear h1 hr6
   go_wp2_with fail
   exact⟨rfl,.inr ⟨z,HQ.o,rfl,HB.o⟩⟩
  simp only[h1]at HQ;have HR6:=hZ hr6;clear h1 hr6;unfold qEW
  go_wp2_with fail
  go_end0
  exact .inl ⟨d5,l6,cs5,HQ.o,rfl,DPar.kr HD5.o (HR5.o.kpx HR6.o.2),qBc HR6.o HK5.o⟩
 ·skip
  have HCk:=hZ (qI8 b N _ ls0 l3 _ HR4.o ⟨HLs.o.t,HLs.o.g,HLs.o.b,HLs.o.x⟩ rfl hl3);have HBk:Hid (qA7 3 (Dc.zero (3:Nat) t3.text t3.at_) l3=qD7 (Dc.zero (3:Nat) t3.text t3.at_) l3):=hZ (by unfold qA7;rfl);clear HMf4 HMp4 HLs
  go_wp2_with fail
  refine HCk.o.mono ?_;rintro e w5 (⟨d5,l5,cs5,h1,rfl,hd5,hr5⟩|⟨z,h1,rfl,hr5⟩);rotate_left
  ·have HQ:Hid (qBl l=.error z):=hZ (by rw[Key.o _ (HBk.o.trans h1)])
   have HB:=hZ (HK4.o.trans hr5);clear h1 hr5
   go_wp2_with fail
   exact⟨rfl,.inr ⟨z,HQ.o,rfl,HB.o⟩⟩
  have HQ:=hZ (Key.o _ (HBk.o.trans h1));have HD5:=hZ hd5;have HR5:Hid (Rdr w5 b N l5 cs5):=hZ hr5.1;have HK5:=hZ (HK4.o.trans hr5.2);obtain⟨v5,hb5,htk5⟩:=HR5.o;have HC5:=hZ (qAK b N v5 _ l5 2 [59] w5 hb5 htk5);clear h1 hd5 hr5 hb5 htk5 HCk HBk Key HD4 HR4 HK4
  go_wp2_with fail
  refine HC5.o.mono ?_;rintro e w6 (⟨t6,l6,h1,rfl,hr6⟩|⟨z,h1,rfl,hr6⟩);rotate_left
  ·simp only[h1]at HQ
   have HB:=hZ (HK5.o.trans hr6);clear h1 hr6
   go_wp2_with fail
   exact⟨rfl,.inr ⟨z,HQ.o,rfl,HB.o⟩⟩
  simp only[h1]at HQ;have HR6:=hZ hr6;clear h1 hr6;unfold qEW
  go_wp2_with fail
  go_end0
  exact .inl ⟨d5,l6,cs5,HQ.o,rfl,DPar.kr HD5.o (HR5.o.kpx HR6.o.2),qBc HR6.o HK5.o⟩
 ·skip
  have HCk:=hZ (qF3 b N _ ls0 l3 _ HR4.o ⟨HLs.o.t,HLs.o.g,HLs.o.b,HLs.o.r⟩ rfl hl3);have HBk:Hid (qA7 4 (Dc.zero (4:Nat) t3.text t3.at_) l3=qHu (Dc.zero (4:Nat) t3.text t3.at_) l3):=hZ (by unfold qA7;rfl);clear HMf4 HMp4 HLs
  go_wp2_with fail
  refine HCk.o.mono ?_;rintro e w5 (⟨d5,l5,cs5,h1,rfl,hd5,hr5⟩|⟨z,h1,rfl,hr5⟩);rotate_left
  ·have HQ:Hid (qBl l=.error z):=hZ (by rw[Key.o _ (HBk.o.trans h1)])
   have HB:=hZ (HK4.o.trans hr5);clear h1 hr5
   go_wp2_with fail
   exact⟨rfl,.inr ⟨z,HQ.o,rfl,HB.o⟩⟩
  have HQ:=hZ (Key.o _ (HBk.o.trans h1));have HD5:=hZ hd5;have HR5:Hid (Rdr w5 b N l5 cs5):=hZ hr5.1;have HK5:=hZ (HK4.o.trans hr5.2);obtain⟨v5,hb5,htk5⟩:=HR5.o;have HC5:=hZ (qAK b N v5 _ l5 2 [59] w5 hb5 htk5);clear h1 hd5 hr5 hb5 htk5 HCk HBk Key HD4 HR4 HK4
  go_wp2_with fail
  refine HC5.o.mono ?_;rintro e w6 (⟨t6,l6,h1,rfl,hr6⟩|⟨z,h1,rfl,hr6⟩);rotate_left
  ·simp only[h1]at HQ
   have HB:=hZ (HK5.o.trans hr6);clear h1 hr6
   go_wp2_with fail
   exact⟨rfl,.inr ⟨z,HQ.o,rfl,HB.o⟩⟩
  simp only[h1]at HQ;have HR6:=hZ hr6;clear h1 hr6;unfold qEW
  go_wp2_with fail
  go_end0
  exact .inl ⟨d5,l6,cs5,HQ.o,rfl,DPar.kr HD5.o (HR5.o.kpx HR6.o.2),qBc HR6.o HK5.o⟩
theorem qKD(k:Nat)(t:TypeId)(w:World):(Instr.typeAssert (.iface 92 (.agg #[.int .i64 k])) t 92 true).run Tryd.prog w=.ok (.tuple #[.agg #[.int .i64 k],.bool true]) w:=by kernel_rfl
theorem qK3(t:TypeId)(w:World):(Instr.typeAssert .nilIface t 92 true).run Tryd.prog w=.ok (.tuple #[.agg #[.int .i64 0],.bool false]) w:=by kernel_rfl
theorem qIN(a b c:Nat)(ta tb tc:TypeId)(v:Value)(x y:Int)(k:Nat)(older:List PanicEntry)(w:World)(h1:One w a ta v)(h2:One w b tb (.int .i64 x))(h3:One w c tc (.int .i64 y))(hab:a≠b)(hac:a≠c)(hbc:b≠c):
 CallsD Tryd.prog 35 #[.pointer (some ⟨a,0,none⟩),.pointer (some ⟨b,0,none⟩),.pointer (some ⟨c,0,none⟩)] (.panicking ({ v:=.iface 92 (.agg #[.int .i64 k]),recovered:=false }::older)) w fun e u' w'=>
  e=.returned (.tuple #[])/\u'=.panicking ({ v:=.iface 92 (.agg #[.int .i64 k]),recovered:=true }::older)/\
  One w' a ta (.slice none 0 0)/\One w' b tb (.int .i64 k)/\One w' c tc (.int .i64 2)/\qAg (fun j=>j=a\/j=b\/j=c) w w':=by
 refine callsD_of_wpS Tryd.func35 rfl fun c₀ cs hu=> ?_;simp only[Tryd.ntmps35,List.size_toArray,List.length_cons,List.length_nil,Nat.reduceAdd,Nat.reduceSub,Array.replicate_succ,Array.replicate_zero,List.push_toArray,List.append_toArray,List.nil_append,List.cons_append];apply wpS_seq;apply wpS_region;have tta:=qKD k;simp[wpOpsS,go_sem,recoverD,hu,tta,Exit.thenS];clear tta;refine wpS_of_wp ?_
 go_wp2_with fail
 obtain⟨w1,hw1⟩:=eX ((w.alloc (.cells #[.int .i64 k] 92)).drew);have hB:Below w.heap.size w w1:=by rw[<-hw1];exact aR.drew
 have la:=h1.lt;have lb:=h2.lt;have lc:=h3.lt;have p1:=h1.below hB la;have p2:=h2.below hB lb;have p3:=h3.below hB lc;have q0:One w1 w.heap.size 92 (.int .i64 k):=by rw[<-hw1];exact(One.new w _ _).drew
 refine qAs [] (fun W=>W.cell? ⟨w.heap.size,0,none⟩=some (.int .i64 k)) (by kernel_rfl) (by rw[hw1];exact q0.cell) (fun hHeld=> ?_);rw[hw1]at hHeld ⊢;clear hw1;refine pU 0 11 ?_;refine qAb 1 12 (v:= ?_) rfl rfl (by kernel_rfl) (by kernel_rfl) (by kernel_rfl) (by kernel_rfl) (by kernel_rfl) (fun _ _ _ h=>h) (by rfl) ?_ (by assumption) ?_;rotate_left
 ·(intro w hSw;go_simp;first|done|with_reducible rfl)
 simp only[sX1,sX2,sX3];obtain⟨w2,hw2⟩:=eX (w1.setCell ⟨a,0,none⟩ (.slice none 0 0));have q2:One w2 w.heap.size 92 (.int .i64 k):=by rw[<-hw2];exact q0.far (by simp;omega) _
 have s1:One w2 a ta (.slice none 0 0):=by rw[<-hw2];exact p1.set _
 have s2:One w2 b tb (.int .i64 x):=by rw[<-hw2];exact p2.far (by simp;omega) _
 have s3:One w2 c tc (.int .i64 y):=by rw[<-hw2];exact p3.far (by simp;omega) _
 have O2:qAg (fun j=>j=a\/j=b\/j=c) w w2:=by rw[<-hw2];exact(qAg.of_below hB).set (p:=⟨a,0,none⟩) (.inl rfl) _
 have c1:=p1.cell;have f1:=p1.frozen;refine eU 2 fun K hK=> ?_;go_simp;refine hK.out _ _ q2.cell (fun hHeld=> ?_);clear hK K c1 f1 hw2 q0 p1 p2 p3
 try simp only[Act.put,sX1,sX2,sX3]
 obtain⟨w3,hw3⟩:=eX (w2.setCell ⟨b,0,none⟩ (.int .i64 k));have q3:One w3 w.heap.size 92 (.int .i64 k):=by rw[<-hw3];exact q2.far (by simp;omega) _
 have r1:One w3 a ta (.slice none 0 0):=by rw[<-hw3];exact s1.far (by simp;omega) _
 have r2:One w3 b tb (.int .i64 k):=by rw[<-hw3];exact s2.set _
 have r3:One w3 c tc (.int .i64 y):=by rw[<-hw3];exact s3.far (by simp;omega) _
 have O3:qAg (fun j=>j=a\/j=b\/j=c) w w3:=by rw[<-hw3];exact O2.set (p:=⟨b,0,none⟩) (.inr (.inl rfl)) _
 have c2:=s2.cell;have f2:=s2.frozen;refine eU 3 fun K hK=> ?_;go_simp;refine hK.out _ _ q3.cell (fun hHeld=> ?_);clear hK K c2 f2 hw3 q2 s1 s2 s3 O2
 try simp only[Act.put,sX1,sX2,sX3]
 obtain⟨w4,hw4⟩:=eX (w3.setCell ⟨c,0,none⟩ (.int .i64 2));have q4:One w4 w.heap.size 92 (.int .i64 k):=by rw[<-hw4];exact q3.far (by simp;omega) _
 have t1:One w4 a ta (.slice none 0 0):=by rw[<-hw4];exact r1.far (by simp;omega) _
 have t2:One w4 b tb (.int .i64 k):=by rw[<-hw4];exact r2.far (by simp;omega) _
 have t3:One w4 c tc (.int .i64 2):=by rw[<-hw4];exact r3.set _
 have O4:qAg (fun j=>j=a\/j=b\/j=c) w w4:=by rw[<-hw4];exact O3.set (p:=⟨c,0,none⟩) (.inr (.inr rfl)) _
 have c3:=r3.cell;have f3:=r3.frozen;refine eU 4 fun K hK=> ?_;go_simp;refine hK.out _ _ q4.cell (fun hHeld=> ?_);clear hK K c3 f3 hw4 q3 r1 r2 r3 O3
 try simp only[Act.put,sX1,sX2,sX3]
 refine dU ?_;clear hHeld;exact⟨rfl,_,rfl,.tuple #[],by simp[results,Tryd.results35],rfl,rfl,t1,t2,t3,O4⟩
theorem qJL(a b c:Value)(w:World):
 CallsD Tryd.prog 35 #[a,b,c] .returning w fun e u' w'=>e=.returned (.tuple #[])/\u'=.returning/\Below w.heap.size w w':=by
 refine callsD_of_wpS Tryd.func35 rfl fun c₀ cs hu=> ?_;simp only[Tryd.ntmps35,List.size_toArray,List.length_cons,List.length_nil,Nat.reduceAdd,Nat.reduceSub,Array.replicate_succ,Array.replicate_zero,List.push_toArray,List.append_toArray,List.nil_append,List.cons_append];apply wpS_seq;apply wpS_region;have tta:=qK3;simp[wpOpsS,go_sem,recoverD,hu,tta,Exit.thenS];refine wpS_of_wp ?_
 go_wp2_with fail
 refine⟨rfl,.returning,?_,.tuple #[],by simp[results,Tryd.results35],rfl,rfl,qAa _ _⟩;cases c₀
 simp_all
end Go.Proofs.YtpmnbcdjoomgcaaDoor
