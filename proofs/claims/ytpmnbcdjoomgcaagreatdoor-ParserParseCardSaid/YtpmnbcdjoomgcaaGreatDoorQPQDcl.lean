/- The reference's reader: a declaration. -/
import Derived.Test.YtpmnbcdjoomgcaaGreatDoorQPQRow
import Derived.Test.YtpmnbcdjoomgcaaGreatDoorQPPOpts
import Derived.Test.YtpmnbcdjoomgcaaGreatDoorQPPCatch
import Derived.Deep.CutRange
import Derived.Deep.CutBlock
set_option linter.unusedVariables false
set_option linter.unusedSimpArgs false
set_option maxHeartbeats 4000000
set_option maxRecDepth 100000
namespace Go.Proofs.YtpmnbcdjoomgcaaGreatDoor
open Go.RowKit
def BL{α:Type}(p:List Tok->Rd (List α))(bad:Bool)(z:List Tok)(acc:List α)(again:Bool)(z1:List Tok)(bd:Bool):Prop:=
 if bd then (bad=true/\z1=z)\/(bad=false/\p z=.error z1)else bad=false/\(if again then p z=qFF acc (p z1)else p z=.ok (acc,z1))
theorem BL.done{α:Type}{p:List Tok->Rd (List α)}{bad:Bool}{z z1:List Tok}{acc:List α}{again bd:Bool}(h:BL p bad z acc again z1 bd)(hg:(again && !bd)=false):QR p bad z (if bd then none else some acc) bd z1:=by
 unfold BL at h;cases bd with
 |true=>
  simp only[if_true]at h ⊢;rcases h with ⟨rfl,rfl⟩|⟨rfl,h9⟩
  ·exact QR.bad
  ·exact QR.err h9
 |false=>
  simp at hg;simp[hg]at h;obtain⟨rfl,h9⟩:=h;exact QR.ok h9
theorem qJQ{z1 z2 z3 z4:List Tok}{u2 u4:Option Int}{u3:Option Unit}{b2 b3 b4:Bool}(h2:QR qAP false z1 u2 b2 z2)(h3:QR (pX [58]) b2 z2 u3 b3 z3)(hX:isX [58] z2=isT 2 [58] z2)(h4:QR qAP b3 z3 u4 b4 z4):
 (b4=true/\qDa z1=.error z4)\/(b4=false/\∃n m,u2=some n/\u4=some m/\z4.length<z1.length/\qDa z1=if isT 2 [44] z4 then qFF [(n,m)] (qDa (z4.drop 1))else .ok ([(n,m)],z4)):=by
 obtain⟨u9, -,h5⟩:=QR.tok (k:=2) (by decide) hX h3;rw[qGr];unfold QR at h2;simp only[Bool.false_eq_true,if_false]at h2;cases e1:qAP z1 with
 |error r=>
  rw[e1]at h2;obtain⟨rfl,rfl,rfl⟩:=h2;obtain⟨rfl,rfl,rfl⟩:=h3;obtain⟨rfl,rfl,rfl⟩:=h4;exact .inl ⟨rfl,rfl⟩
 |ok a=>
  rw[e1]at h2;obtain⟨rfl,rfl,rfl⟩:=h2;have l1:=qBb e1;unfold QR at h5;simp only[Bool.false_eq_true,if_false]at h5;simp only[];cases e2:qAL 2 [58] a.2 with
  |error r=>
   rw[e2]at h5;obtain⟨rfl,rfl,rfl⟩:=h5;obtain⟨rfl,rfl,rfl⟩:=h4;exact .inl ⟨rfl,rfl⟩
  |ok c=>
   rw[e2]at h5;obtain⟨rfl,rfl,rfl⟩:=h5;have l2:=qAv e2;unfold QR at h4;simp only[Bool.false_eq_true,if_false]at h4;simp only[];cases e3:qAP c.2 with
   |error r=>
    rw[e3]at h4;obtain⟨rfl,rfl,rfl⟩:=h4;exact .inl ⟨rfl,rfl⟩
   |ok m=>
    rw[e3]at h4;obtain⟨rfl,rfl,rfl⟩:=h4;have l3:=qBb e3;exact .inr ⟨rfl,a.1,m.1,rfl,rfl,by omega,rfl⟩
structure L5Q(w:World)(d:Dc)(y:Ls):Prop where
 t:qAA 96 w y.t d.take
 g:qAA 96 w y.g d.give
 b:qAA 96 w y.b d.back
 r:qAZ 96 31 w y.r d.rows
theorem L5Q.kp{X:List TypeId}{w w':World}{d:Dc}{y:Ls}(h:L5Q w d y)(hk:KpX X w w')(h1:96∉X)(h3:31∉X):L5Q w' d y:=
 ⟨h.t.kp hk h1,h.g.kp hk h1,h.b.kp hk h1,h.r.kp hk h1 h3⟩
theorem QD.setX{w:World}{bd:Nat}{d:Dc}{y:Ls}(h:QD w bd d y)(u:Value):QD (w.setCell ⟨bd,16,none⟩ u) bd d { y with x:=u }/\KpX [35] w (w.setCell ⟨bd,16,none⟩ u):=by
 refine⟨?_,KpX.set h (by simp) u⟩;unfold QD at h ⊢;simp[World.setCell,Array.getElem?_modify,h,dcC]
structure QX(w0 w:World)(b bd:Nat)(s:ByteArray)(T z:List Tok)(bad:Bool)(d:Dc)(y:Ls)(v:Value)(acc:List (Int×Int)):Prop where
 q:QS w b s T z bad
 l:L5Q w d y
 d:QD w bd d { y with x:=v }
 o:w.ownsRow w0.heap.size 98 2 v acc.length (acc.flatMap brC)
 k:qAf (S2 b bd) w0 w
theorem QX.step{w0 w w':World}{b bd:Nat}{s:ByteArray}{T z z':List Tok}{bad bad':Bool}{d:Dc}{y:Ls}{v:Value}{acc:List (Int×Int)}(h:QX w0 w b bd s T z bad d y v acc)(hq:QOk w w' b s T z' bad')(hb:b<w0.heap.size):QX w0 w' b bd s T z' bad' d y v acc:=by
 have hk:=h.q.kpx hq.2;exact⟨hq.1,h.l.kp hk (by decide) (by decide),hk _ _ bd (by decide) h.d,hq.2.own h.o (fun k hk he=>by have:=(h.o.lt k hk).1;omega),h.k.trans (hq.two bd)⟩
theorem QX.below{w0 w w':World}{b bd:Nat}{s:ByteArray}{T z:List Tok}{bad:Bool}{d:Dc}{y:Ls}{v:Value}{acc:List (Int×Int)}(h:QX w0 w b bd s T z bad d y v acc)(hB:Below w.heap.size w w')(hb:b<w0.heap.size):QX w0 w' b bd s T z bad d y v acc:=h.step ⟨h.q.below hB,qAf.of_below hB⟩ hb
theorem qHs(b bd:Nat)(s:ByteArray)(T z:List Tok)(bad:Bool)(d:Dc)(y:Ls)(w:World)(hw:WfL T)(h:QS w b s T z bad)(hd:QD w bd d y)(hy:L5Q w d y)(hv:y.x=.slice none 0 0):
 Calls Tryz.prog 68 #[.pointer (some ⟨b,0,none⟩),.pointer (some ⟨bd,0,none⟩)] w (qEH b bd s T (QR (qEK d) bad z) w):=by
 have hlb:=h.lt;have hld:=hd.lt;have HX:Hid (QX w w b bd s T z bad d y (.slice none 0 0) []):=hZ ⟨h,hy,by rw[<-hv];exact hd,World.ownsRow_nil _ _ _ _,qAf.refl _ _⟩;have HW:=hZ hw;have Hz:=hZ h.len;clear h hw hd hy hv
 go_enter Tryz.func68,Tryz.ntmps68
 go_wp2_with fail
 go_loopw [4] (fun ag wr=>∃(acc:List (Int×Int)) (v:Value) (again:Bool) (z1:List Tok) (b1:Bool),ag=.bool again/\Hid (BL qDa bad z acc again z1 b1)/\Hid (acc.length+(if again && !b1 then z1.length+1 else 0)<=100001)/\Hid (QX w wr b bd s T z1 b1 d y v acc)) (fun ag wr=>qM2 wr b ag)
 case atStart=>
  refine⟨[],_,true,z,bad,rfl,hZ ?_,hZ (by have:=Hz.o;simp;split<;>omega),HX⟩;unfold BL;cases bad with
  |true=>exact .inl ⟨rfl,rfl⟩
  |false=>exact⟨rfl,by simp[qDp]⟩
 case round=>
  obtain⟨acc,v,again,z1,b1,rfl,HB,HL,HX1⟩:=hrel;clear HX;obtain⟨v1,i1,a1,cp1,hb1,ht1,hv1, -, -,-⟩:=HX1.o.q.at_;have c3:wr.cell? ⟨b,3,none⟩=some (.bool b1):=hb1.cell 3;clear hb1 ht1;by_cases hgo:again=true/\b1=false;rotate_left
  ·have hg:(again && !b1)=false:=by cases again<;>cases b1<;>simp at hgo ⊢
   have HG:=hZ hg;clear hgo hg;have hfin:qEH b bd s T (QR (qEK d) bad z) w (.returned (.tuple #[])) wr:=by
    have h9:=HB.o.done HG.o;refine⟨rfl,_,z1,b1,{ d with brs:=acc },QR.map (fun x=>{ d with brs:=x }) (fun l=>by unfold qEK;cases qDa l<;>rfl) h9,?_,⟨HX1.o.q,{ y with x:=v },HX1.o.d,HX1.o.l.t,HX1.o.l.g,HX1.o.l.b,HX1.o.l.r,qCM.of_own HX1.o.o⟩,HX1.o.k⟩;intro x hx;cases b1 with
    |true=>cases hx
    |false=>injection hx
   cases again with
   |false=>
    go_wp2_with fail
    go_end0
    exact hfin
   |true=>
    obtain rfl:b1=true:=by have:=HG.o;simpa using this
    go_wp2_with fail
    go_end0
    exact hfin
  obtain⟨rfl,rfl⟩:=hgo;have HC:=hZ (qAQ b s T z1 false wr HX1.o.q)
  go_wp2_with fail
  clear c3;refine HC.o.mono ?_;rintro e w2 ⟨u2,z2,b2,rfl,hq2,hr2⟩;have HQ2:=hZ hq2;have HX2:=hZ (HX1.o.step hr2 hlb);have HC2:=hZ (qAX b s T z2 b2 [58] w2 hr2.1);have Hsy2:=hZ (hr2.1.sym HW.o (x:=[58]) (by decide));clear hq2 hr2 HC;unfold qHA;obtain⟨n,hn⟩:=eX (u2.getD 0);rw[hn];have Hn:=hZ hn;clear hn
  go_wp2_with fail
  refine HC2.o.mono ?_;rintro e w3 ⟨u3,z3,b3,rfl,hq3,hr3⟩;have HQ3:=hZ hq3;have HX3:=hZ (HX2.o.step hr3 hlb);clear hq3 hr3 HC2 HX2;obtain⟨wd,hwd⟩:=eX w3.drew;have hBd:Below w3.heap.size w3 wd:=by rw[<-hwd];exact(Below.refl _ _).drew
  have HXd:=hZ (HX3.o.below hBd hlb);have cd:wd.cell? ⟨bd,16,none⟩=some v:=HXd.o.d.cell 16;have c3:w3.cell? ⟨bd,16,none⟩=some v:=by rw[<-hwd]at cd;exact cd
  have HC3:=hZ (qAQ b s T z3 b3 wd HXd.o.q);clear hBd HX3
  go_wp2_with fail
  refine qAr [13] (fun W=>W.cell? ⟨bd,16,none⟩=some v) (by kernel_rfl) (c3) (fun hHeld=> ?_);rw[hwd]at hHeld ⊢;clear hwd c3;refine pU 0 18 ?_;refine pU 1 19 ?_;refine pU 2 20 ?_;refine pU 3 21 ?_;refine qAc 4 22 (v:= ?_) rfl rfl (by kernel_rfl) (by kernel_rfl) (by kernel_rfl) (by kernel_rfl) (by kernel_rfl) (fun _ _ _ h=>h) (by rfl) ?_ (by assumption) ?_;rotate_left
  ·(intro w hSw;go_simp;first|done|with_reducible rfl)
  simp only[sX1,sX2,sX3];refine pU 5 23 ?_;refine pU 6 24 ?_;refine eU 7 fun K hK=> ?_;go_simp;refine HC3.o.mono ?_;rintro e w4 ⟨u4,z4,b4,rfl,hq4,hr4⟩;have HQ4:=hZ hq4;have HX4:=hZ (HXd.o.step hr4 hlb);unfold qHA;obtain⟨m,hm⟩:=eX (u4.getD 0);rw[hm];have Hm:=hZ hm;have c4:w4.cell? ⟨bd,16,none⟩=some v:=HX4.o.d.cell 16;clear hm hq4 hr4 HXd HC3 cd hHeld
  go_wp2_with fail
  refine hK.out _ _ (c4) (fun hHeld=> ?_);clear hK K
  try simp only[Act.put,sX1,sX2,sX3]
  clear c4;obtain⟨w5,hw5⟩:=eX (w4.alloc (.cells #[.int .i64 n,.int .i64 m] 98));have hB5:Below w4.heap.size w4 w5:=by rw[<-hw5];exact qAa _ _
  have HW5:Hid (qAC w5 w4.heap.size 98 (brC (n,m))):=hZ (by rw[<-hw5];exact qAC.new _ _ _);have HX5:=hZ (HX4.o.below hB5 hlb);have HO5:=hZ HX5.o.o;have HK5:=hZ HX5.o.k.size;have c5:w5.cell? ⟨bd,16,none⟩=some v:=HX5.o.d.cell 16;have hac:acc.length<=100001:=by have:=HL.o;simp at this;omega
  clear hB5 HX4;refine pU 8 26 ?_;refine eU 9 fun K hK=> ?_;go_simp;clear hw5 hHeld
  go_wp2_with fail
  refine hK.out _ _ (c5) (fun hHeld=> ?_);clear hK K
  try simp only[Act.put,sX1,sX2,sX3]
  clear c5;refine eU 10 fun K hK=> ?_;refine qBg (W0:=w5) qIK rfl _ _ rfl (brC (n,m)) w4.heap.size _ _ _ rfl rfl HW5.o rfl (by simp[brC,Value.oneCell']) HO5.o (Below.refl _ _) HK5.o (by omega) (by omega) ?_;intro g6 cap6 w6 HO6 HB6 HF6 hcap6 hcap6b;have HK6:=hZ (KpX.own (X:=[98]) HO5.o HF6.o (by simp));have HQ6:=hZ (HX5.o.q.kp HK6.o (by decide) (by decide));have HD6:Hid (QD w6 bd d { y with x:=v }):=hZ (HK6.o _ _ bd (by decide) HX5.o.d);have HY6:=hZ (HX5.o.l.kp HK6.o (by decide) (by decide));have HR6:=hZ (HX5.o.k.behind HB6.o);clear HO5 HK5 HX5 HK6 HB6 HF6 HW5;have c6:w6.cell? ⟨bd,16,none⟩=some v:=HD6.o.cell 16;have f6:=HD6.o.frozen 16;obtain⟨acc',ha'⟩:∃acc',acc'=acc++[(n,m)]:=⟨_,rfl⟩;have hal:acc.length+1=acc'.length:=by rw[ha'];simp
  have hfl:acc.flatMap brC++brC (n,m)=acc'.flatMap brC:=by rw[ha'];simp
  rw[hal,hfl]at HO6;rw[hal];have Ha:=hZ ha';have Hal:=hZ hal;have HS:=HD6.o.setX (.slice (some ⟨g6,0,none⟩) acc'.length cap6);have HR7:=hZ (qBo HR6.o 16 (.slice (some ⟨g6,0,none⟩) acc'.length cap6));obtain⟨w7,hw7⟩:=eX (w6.setCell ⟨bd,16,none⟩ (.slice (some ⟨g6,0,none⟩) acc'.length cap6));rw[hw7]at HS HR7;have HX7:Hid (QX w w7 b bd s T z4 b4 d y (.slice (some ⟨g6,0,none⟩) acc'.length cap6) acc'):=hZ ⟨HQ6.o.kp HS.2 (by decide) (by decide),HY6.o.kp HS.2 (by decide) (by decide),HS.1,qBC HO6.o HS.2 (by decide),HR7.o⟩;have HC7:=hZ (qC8 b s T z4 b4 [44] w7 HX7.o.q);have Hsy:=hZ (HX7.o.q.sym HW.o (x:=[44]) (by decide));clear HS HR7 HR6 HY6 HQ6 HD6 HO6 hHeld ha' hal hfl hac hcap6 hcap6b
  go_wp2_with fail
  refine hK.out _ _ (c6) (fun hHeld=> ?_);clear hK K
  try simp only[Act.put,sX1,sX2,sX3]
  refine pU 11 29 ?_;refine pU 12 30 ?_;refine lU 13 fun K hK=> ?_;go_simp;refine hK.out _ _ ?_;clear hK K
  try simp only[Act.put,sX1,sX2,sX3]
  refine dU ?_;clear hHeld;clear hw7 c6 f6;have Hst:=hZ (qJQ HQ2.o HQ3.o Hsy2.o HQ4.o);have HEp:Hid (bad=false/\qDa z=qFF acc (qDa z1)):=hZ (by have h9:=HB.o;unfold BL at h9;simpa using h9)
  go_wp2_with fail
  refine HC7.o.mono ?_;rintro e w8 ⟨rfl,hB8⟩;have HX8:=hZ (HX7.o.below hB8 hlb);clear hB8 HX7 HC7;by_cases hs:(!b4 && isX [44] z4)=true
  ·rw[hs]
   obtain⟨rfl,hix⟩:b4=false/\isX [44] z4=true:=by simpa using hs
   have Hix:=hZ hix;clear hs hix;have HC8:=hZ (qAX b s T z4 false [44] w8 HX8.o.q)
   go_wp2_with fail
   refine HC8.o.mono ?_;rintro e w9 ⟨u9,z9,b9,rfl,hq9,hr9⟩;have HP9:Hid (b9=false/\z9=z4.drop 1):=hZ (by
    unfold QR at hq9;rw[qEJ,Hix.o]at hq9;simp at hq9;exact⟨hq9.2.1,by rw[hq9.2.2];simp⟩)
   have HX9:=hZ (HX8.o.step hr9 hlb);clear hq9 hr9 HX8 HC8
   go_wp2_with fail
   go_roundw
   case rel=>
    obtain⟨h9,-⟩|⟨-,n9,m9,e2,e3,hlt3,e4⟩:=Hst.o
    ·cases h9
    obtain⟨rfl,rfl⟩:=HP9.o;have hT2:isT 2 [44] z4=true:=by rw[<-Hsy.o];exact Hix.o
    rw[if_pos hT2]at e4;refine⟨acc',_,true,_,false,rfl,hZ ?_,hZ (by have h8:=HL.o;have h7:=Hal.o;simp at h8 ⊢;omega),HX9⟩;unfold BL;simp only[Bool.false_eq_true,if_false,if_true];refine⟨HEp.o.1,?_⟩;rw[HEp.o.2,e4,qCg,Ha.o];have en:n=n9:=by rw[<-Hn.o,e2];rfl
    have em:m=m9:=by rw[<-Hm.o,e3];rfl
    rw[en,em]
   case measure=>
    obtain⟨h9,-⟩|⟨-,n9,m9,e2,e3,hlt3,e4⟩:=Hst.o
    ·cases h9
    obtain⟨rfl,rfl⟩:=HP9.o;rw[HX9.o.q.m2 true,HX1.o.q.m2 true];simp;omega
  ·rw[Bool.not_eq_true]at hs
   rw[hs];have Hs:=hZ hs;clear hs
   go_wp2_with fail
   go_roundw
   case rel=>
    refine⟨acc',_,false,z4,b4,rfl,hZ ?_,hZ (by have h8:=HL.o;have h7:=Hal.o;simp at h8 ⊢;omega),HX8⟩;unfold BL;obtain⟨rfl,h9⟩|⟨rfl,n9,m9,e2,e3,hlt3,e4⟩:=Hst.o
    ·simp only[if_true]
     exact .inr ⟨HEp.o.1,by rw[HEp.o.2,h9];rfl⟩
    ·have h8:=Hs.o
     simp at h8;rw[Hsy.o]at h8;rw[if_neg (by rw[h8];simp)]at e4;simp only[Bool.false_eq_true,if_false];refine⟨HEp.o.1,?_⟩;have en:n=n9:=by rw[<-Hn.o,e2];rfl
     have em:m=m9:=by rw[<-Hm.o,e3];rfl
     rw[HEp.o.2,e4,Ha.o,en,em];rfl
   case measure=>
    rw[HX8.o.q.m2 false,HX1.o.q.m2 true];simp
theorem qEa:qD4 Tryz.prog 32 31 1 24:=qD4.mk (z:=.slice none 0 0) Tryz.underlying32 (by kernel_rfl) rfl (by decide)
theorem qKy{x:Bs}{z:List Tok}(h:isX x z=true):0<z.length:=by
 cases z with
 |nil=>cases h
 |cons _ _=>simp
def RL(bad:Bool)(z:List Tok)(acc:List (List Pr))(z1:List Tok)(bd:Bool):Prop:=
 if bd then (bad=true/\z1=z)\/(bad=false/\qBj (z.length+1) z=.error z1)else bad=false/\∃f,z1.length<=f/\qBj (z.length+1) z=if isT 2 [43] z1 then qFF acc (qBj f (z1.drop 1))else .ok (acc,z1)
theorem RL.first{bad b:Bool}{z z4:List Tok}{u:Option (List Pr)}{g:List Pr}(hq:QR qCu bad z u b z4)(hu:∀x,u=some x->g=x):RL bad z [g] z4 b/\(b=false->z4.length<z.length):=by
 unfold QR at hq;cases bad with
 |true=>
  obtain⟨rfl,rfl,rfl⟩:=hq;exact⟨.inl ⟨rfl,rfl⟩,nofun⟩
 |false=>
  simp only[Bool.false_eq_true,if_false]at hq;unfold RL;rw[qBU];cases h:qCu z with
  |error r=>
   rw[h]at hq;obtain⟨rfl,rfl,rfl⟩:=hq;exact⟨.inr ⟨rfl,rfl⟩,nofun⟩
  |ok a=>
   rw[h]at hq;obtain⟨rfl,rfl,rfl⟩:=hq;have:=qCh h;refine⟨⟨rfl,z.length,by omega,?_⟩,fun _=>this⟩;simp only[];rw[hu _ rfl]
theorem RL.next{bad b:Bool}{z z1 z4:List Tok}{acc:List (List Pr)}{u:Option (List Pr)}{g:List Pr}(h:RL bad z acc z1 false)(ht:isT 2 [43] z1=true)(hq:QR qCu false (z1.drop 1) u b z4)(hu:∀x,u=some x->g=x):RL bad z (acc++[g]) z4 b/\(b=false->z4.length<z1.length):=by
 unfold QR at hq;simp only[Bool.false_eq_true,if_false]at hq;unfold RL at h;simp only[Bool.false_eq_true,if_false]at h;obtain⟨rfl,f,hf,he⟩:=h;rw[if_pos ht]at he;have h1:0<z1.length:=by
  cases z1 with
  |nil=>cases ht
  |cons _ _=>simp
 obtain⟨f,rfl⟩:∃f',f=f'+1:=⟨f-1,by omega⟩;rw[qBU f]at he;unfold RL;rw[he];cases h:qCu (z1.drop 1)with
 |error r=>
  rw[h]at hq;obtain⟨rfl,rfl,rfl⟩:=hq;exact⟨.inr ⟨rfl,rfl⟩,nofun⟩
 |ok a=>
  rw[h]at hq;obtain⟨rfl,rfl,rfl⟩:=hq;have hl:=qCh h;simp at hl;refine⟨⟨rfl,f,by omega,?_⟩,fun _=>by omega⟩;simp only[];rw[hu _ rfl];by_cases hs:isT 2 [43] a.2=true
  ·rw[if_pos hs,if_pos hs,qCg]
  ·rw[if_neg hs,if_neg hs]
   rfl
theorem RL.done{bad b:Bool}{z z1:List Tok}{acc:List (List Pr)}(d:Dc)(h:RL bad z acc z1 b)(hs:b=true\/isT 2 [43] z1=false):QR (qCq d) bad z (if b then none else some { d with rows:=acc }) b z1:=by
 unfold RL at h;cases b with
 |true=>
  simp only[if_true]at h ⊢;rcases h with ⟨rfl,rfl⟩|⟨rfl,h9⟩
  ·exact QR.bad
  ·exact QR.err (by unfold qCq;rw[h9])
 |false=>
  simp only[Bool.false_eq_true,if_false,false_or]at h hs ⊢;obtain⟨rfl,f, -,h9⟩:=h;rw[if_neg (by rw[hs];simp)]at h9;exact QR.ok (by unfold qCq;rw[h9])
structure L4Q(w:World)(d:Dc)(y:Ls):Prop where
 t:qAA 96 w y.t d.take
 g:qAA 96 w y.g d.give
 b:qAA 96 w y.b d.back
 x:qCM w y.x d.brs
theorem L4Q.kp{X:List TypeId}{w w':World}{d:Dc}{y:Ls}(h:L4Q w d y)(hk:KpX X w w')(h1:96∉X)(h3:98∉X):L4Q w' d y:=
 ⟨h.t.kp hk h1,h.g.kp hk h1,h.b.kp hk h1,h.x.kp hk h3⟩
theorem QD.setR{w:World}{bd:Nat}{d:Dc}{y:Ls}(h:QD w bd d y)(u:Value):QD (w.setCell ⟨bd,15,none⟩ u) bd d { y with r:=u }/\KpX [35] w (w.setCell ⟨bd,15,none⟩ u):=by
 refine⟨?_,KpX.set h (by simp) u⟩;unfold QD at h ⊢;simp[World.setCell,Array.getElem?_modify,h,dcC]
structure QZ(w0 w:World)(b bd:Nat)(s:ByteArray)(T z:List Tok)(bad:Bool)(d:Dc)(y:Ls)(v:Value)(us:List Value)(acc:List (List Pr)):Prop where
 q:QS w b s T z bad
 l:L4Q w d y
 o:w.ownsRow w0.heap.size 31 1 v acc.length us
 u:qDQ 96 w us acc
 k:qAf (S2 b bd) w0 w
 d:QD w bd d { y with r:=v }
theorem QZ.step{w0 w w':World}{b bd:Nat}{s:ByteArray}{T z z':List Tok}{bad bad':Bool}{d:Dc}{y:Ls}{v:Value}{us:List Value}{acc:List (List Pr)}(h:QZ w0 w b bd s T z bad d y v us acc)(hq:QOk w w' b s T z' bad')(hb:b<w0.heap.size):QZ w0 w' b bd s T z' bad' d y v us acc:=by
 have hk:=h.q.kpx hq.2;exact⟨hq.1,h.l.kp hk (by decide) (by decide),hq.2.own h.o (fun k hk he=>by have:=(h.o.lt k hk).1;omega),h.u.kp hk (by decide),h.k.trans (hq.two bd),hk _ _ bd (by decide) h.d⟩
theorem QZ.below{w0 w w':World}{b bd:Nat}{s:ByteArray}{T z:List Tok}{bad:Bool}{d:Dc}{y:Ls}{v:Value}{us:List Value}{acc:List (List Pr)}(h:QZ w0 w b bd s T z bad d y v us acc)(hB:Below w.heap.size w w')(hb:b<w0.heap.size):QZ w0 w' b bd s T z bad d y v us acc:=h.step ⟨h.q.below hB,qAf.of_below hB⟩ hb
theorem qH7(b bd:Nat)(s:ByteArray)(T z:List Tok)(bad:Bool)(d:Dc)(y:Ls)(w:World)(hw:WfL T)(h:QS w b s T z bad)(hd:QD w bd d y)(hy:L4Q w d y)(hv:y.r=.slice none 0 0):
 Calls Tryz.prog 67 #[.pointer (some ⟨b,0,none⟩),.pointer (some ⟨bd,0,none⟩)] w (qEH b bd s T (QR (qCq d) bad z) w):=by
 have hlb:=h.lt;have hld:=hd.lt;obtain⟨acc,hac0⟩:∃l:List (List Pr),l=[]:=⟨_,rfl⟩;obtain⟨us,hus0⟩:∃l:List Value,l=[]:=⟨_,rfl⟩;have HA0:=hZ hac0;have HX3:Hid (QZ w w b bd s T z bad d y (.slice none 0 0) us acc):=hZ (by rw[hac0,hus0];exact⟨h,hy,World.ownsRow_nil _ _ _ _,qDQ.nil _ _,qAf.refl _ _,by rw[<-hv];exact hd⟩);have HW:=hZ hw;have Hz:=hZ h.len;clear h hw hd hy hv hac0 hus0
 go_enter Tryz.func67,Tryz.ntmps67
 obtain⟨wd,hwd⟩:=eX w.drew;have hBd:Below w.heap.size w wd:=by rw[<-hwd];exact(Below.refl _ _).drew
 have HXd:=hZ (HX3.o.below hBd hlb);have cd:wd.cell? ⟨bd,15,none⟩=some (.slice none 0 0):=HXd.o.d.cell 15;have c3:w.cell? ⟨bd,15,none⟩=some (.slice none 0 0):=by rw[<-hwd]at cd;exact cd
 have HC3:=hZ (qGR b s T (z) bad wd HW.o HXd.o.q);clear hBd HX3
 go_wp2_with fail
 refine qAr [11] (fun W=>W.cell? ⟨bd,15,none⟩=some (.slice none 0 0)) (by kernel_rfl) (c3) (fun hHeld=> ?_);rw[hwd]at hHeld ⊢;clear hwd c3;refine pU 0 4 ?_;refine pU 1 5 ?_;refine pU 2 6 ?_;refine pU 3 7 ?_;refine qAc 4 8 (v:= ?_) rfl rfl (by kernel_rfl) (by kernel_rfl) (by kernel_rfl) (by kernel_rfl) (by kernel_rfl) (fun _ _ _ h=>h) (by rfl) ?_ (by assumption) ?_;rotate_left
 ·(intro w hSw;go_simp;first|done|with_reducible rfl)
 simp only[sX1,sX2,sX3];refine pU 5 9 ?_;refine eU 6 fun K hK=> ?_;go_simp;refine HC3.o.mono ?_;rintro e w4 ⟨u4,z4,b4,⟨v4,g4,rfl,hp4,hg4⟩,hq4,hr4⟩;obtain⟨a4,cp4,rfl, -,-⟩:=TSl.form hp4;have HQ4:=hZ hq4;have HG4:=hZ hg4;have HP4:=hZ hp4;have HX4:=hZ (HXd.o.step hr4 hlb);have c4:w4.cell? ⟨bd,15,none⟩=some (.slice none 0 0):=HX4.o.d.cell 15;clear hq4 hg4 hp4 hr4 HXd HC3 cd hHeld
 go_wp2_with fail
 refine hK.out _ _ (c4) (fun hHeld=> ?_);clear hK K
 try simp only[Act.put,sX1,sX2,sX3]
 clear c4;obtain⟨w5,hw5⟩:=eX (w4.alloc (.cells #[.slice a4 g4.length cp4] 31));have hB5:Below w4.heap.size w4 w5:=by rw[<-hw5];exact qAa _ _
 have HW5:Hid (qAC w5 w4.heap.size 31 [.slice a4 g4.length cp4]):=hZ (by rw[<-hw5];exact qAC.new _ _ _);have HX5:=hZ (HX4.o.below hB5 hlb);have HP5:=hZ (HP4.o.kp (KpX.of_below (X:=[]) hB5) (by simp));have HO5:=hZ HX5.o.o;have HK5:=hZ HX5.o.k.size;have c5:w5.cell? ⟨bd,15,none⟩=some (.slice none 0 0):=HX5.o.d.cell 15;have hac:acc.length<=100001:=by rw[HA0.o];simp
 clear hB5 HX4 HP4;refine eU 7 fun K hK=> ?_;go_simp;clear hw5 hHeld
 go_wp2_with fail
 refine hK.out _ _ (c5) (fun hHeld=> ?_);clear hK K
 try simp only[Act.put,sX1,sX2,sX3]
 clear c5;refine eU 8 fun K hK=> ?_;refine qBg (W0:=w5) qEa rfl _ _ rfl [.slice a4 g4.length cp4] w4.heap.size _ _ _ rfl rfl HW5.o rfl (by simp[Value.oneCell']) HO5.o (Below.refl _ _) HK5.o (by omega) (by omega) ?_;intro g6 cap6 w6 HO6 HB6 HF6 hcap6 hcap6b;have HK6:=hZ (KpX.own (X:=[31]) HO5.o HF6.o (by simp));have HQ6:=hZ (HX5.o.q.kp HK6.o (by decide) (by decide));have HD6:Hid (QD w6 bd d { y with r:=.slice none 0 0 }):=hZ (HK6.o _ _ bd (by decide) HX5.o.d);have HY6:=hZ (HX5.o.l.kp HK6.o (by decide) (by decide));have HU6:=hZ ((HX5.o.u.kp HK6.o (by decide)).snoc (HP5.o.kp HK6.o (by decide)));have HR6:=hZ (HX5.o.k.behind HB6.o);clear HO5 HK5 HX5 HK6 HB6 HF6 HW5 HP5;have c6:w6.cell? ⟨bd,15,none⟩=some (.slice none 0 0):=HD6.o.cell 15;have f6:=HD6.o.frozen 15;obtain⟨acc',ha'⟩:∃acc',acc'=acc++[g4]:=⟨_,rfl⟩;obtain⟨us',hu'⟩:∃us',us'=us++[Value.slice a4 g4.length cp4]:=⟨_,rfl⟩;have hal:(acc:List (List Pr)).length+1=acc'.length:=by rw[ha'];simp
 rw[<-ha',<-hu']at HU6;rw[hal,<-hu']at HO6;rw[hal];have Ha:=hZ ha';have Hal:=hZ hal;have HS:=HD6.o.setR (.slice (some ⟨g6,0,none⟩) acc'.length cap6);have HR7:=hZ (qBo HR6.o 15 (.slice (some ⟨g6,0,none⟩) acc'.length cap6));obtain⟨w7,hw7⟩:=eX (w6.setCell ⟨bd,15,none⟩ (.slice (some ⟨g6,0,none⟩) acc'.length cap6));rw[hw7]at HS HR7;have HX7:Hid (QZ w w7 b bd s T z4 b4 d y (.slice (some ⟨g6,0,none⟩) acc'.length cap6) us' acc'):=hZ ⟨HQ6.o.kp HS.2 (by decide) (by decide),HY6.o.kp HS.2 (by decide) (by decide),qBC HO6.o HS.2 (by decide),HU6.o.kp HS.2 (by decide),HR7.o,HS.1⟩;clear HS HR7 HR6 HY6 HQ6 HD6 HO6 HU6 hHeld ha' hu' hal hcap6 hcap6b
 go_wp2_with fail
 refine hK.out _ _ (c6) (fun hHeld=> ?_);clear hK K
 try simp only[Act.put,sX1,sX2,sX3]
 refine pU 9 13 ?_;refine pU 10 14 ?_;refine lU 11 fun K hK=> ?_;go_simp;refine hK.out _ _ ?_;clear hK K
 try simp only[Act.put,sX1,sX2,sX3]
 refine dU ?_;clear hHeld;clear hw7 c6 f6;have HT:=RL.first HQ4.o HG4.o;have Ha1:acc'=[g4]:=by rw[Ha.o,HA0.o];rfl
 have Hal2:acc'.length=1:=by rw[Ha1];rfl
 have HL7:Hid (acc'.length+(if !b4 then z4.length else 0)<=100001):=hZ (by have h8:=HT.2;have:=Hz.o;cases b4<;>simp at h8 ⊢ <;>omega);have HA7:Hid (RL bad z acc' z4 b4):=hZ (by rw[Ha1];exact HT.1);clear HT HQ4 HG4 Ha Hal Hal2 HA0 Ha1
 go_wp2_with fail
 go_loopw [] (fun wr=>∃(acc:List (List Pr)) (us:List Value) (v:Value) (z1:List Tok) (b1:Bool),Hid (RL bad z acc z1 b1)/\Hid (acc.length+(if !b1 then z1.length else 0)<=100001)/\Hid (QZ w wr b bd s T z1 b1 d y v us acc)) (fun wr=>qM2 wr b (.bool true))
 case atStart=>exact⟨acc',us',_,z4,b4,HA7,HL7,HX7⟩
 case round=>
  clear HA7 HL7 HX7;obtain⟨acc,us,v,z1,b1,HA,HL,HX1⟩:=hrel;have HC:=hZ (qC8 b s T z1 b1 [43] wr HX1.o.q);have Hsy:=hZ (HX1.o.q.sym HW.o (x:=[43]) (by decide))
  go_wp2_with fail
  refine HC.o.mono ?_;rintro e w2 ⟨rfl,hB2⟩;have HX2:=hZ (HX1.o.below hB2 hlb);clear hB2 HC;by_cases hs:(!b1 && isX [43] z1)=true;rotate_left
  ·rw[Bool.not_eq_true]at hs
   rw[hs];have Hs:=hZ hs;clear hs
   go_wp2_with fail
   go_end0
   have h9:=HA.o.done d (by have h8:=Hs.o;rw[Hsy.o]at h8;cases b1<;>simp at h8 ⊢;exact h8);refine⟨rfl,_,z1,b1,{ d with rows:=acc },h9,?_,⟨HX2.o.q,{ y with r:=v },HX2.o.d,HX2.o.l.t,HX2.o.l.g,HX2.o.l.b,HX2.o.u.rows HX2.o.o,HX2.o.l.x⟩,HX2.o.k⟩;intro x hx;cases b1 with
   |true=>cases hx
   |false=>injection hx
  rw[hs];obtain⟨rfl,hix⟩:b1=false/\isX [43] z1=true:=by simpa using hs
  have Hix:=hZ hix;clear hs hix;have HC2:=hZ (qAX b s T z1 false [43] w2 HX2.o.q)
  go_wp2_with fail
  refine HC2.o.mono ?_;rintro e w3 ⟨u3,z3,b3,rfl,hq3,hr3⟩;have HP3:Hid (b3=false/\z3=z1.drop 1):=hZ (by
   unfold QR at hq3;rw[qEJ,Hix.o]at hq3;simp at hq3;exact⟨hq3.2.1,by rw[hq3.2.2];simp⟩)
  have HX3:=hZ (HX2.o.step hr3 hlb);clear hq3 hr3 HX2 HC2;obtain⟨wd,hwd⟩:=eX w3.drew;have hBd:Below w3.heap.size w3 wd:=by rw[<-hwd];exact(Below.refl _ _).drew
  have HXd:=hZ (HX3.o.below hBd hlb);have cd:wd.cell? ⟨bd,15,none⟩=some (v):=HXd.o.d.cell 15;have c3:w3.cell? ⟨bd,15,none⟩=some (v):=by rw[<-hwd]at cd;exact cd
  have HC3:=hZ (qGR b s T (z3) b3 wd HW.o HXd.o.q);clear hBd HX3
  go_wp2_with fail
  refine qAr [11] (fun W=>W.cell? ⟨bd,15,none⟩=some (v)) (by kernel_rfl) (c3) (fun hHeld=> ?_);rw[hwd]at hHeld ⊢;clear hwd c3;refine pU 0 19 ?_;refine pU 1 20 ?_;refine pU 2 21 ?_;refine pU 3 22 ?_;refine qAc 4 23 (v:= ?_) rfl rfl (by kernel_rfl) (by kernel_rfl) (by kernel_rfl) (by kernel_rfl) (by kernel_rfl) (fun _ _ _ h=>h) (by rfl) ?_ (by assumption) ?_;rotate_left
  ·(intro w hSw;go_simp;first|done|with_reducible rfl)
  simp only[sX1,sX2,sX3];refine pU 5 24 ?_;refine eU 6 fun K hK=> ?_;go_simp;refine HC3.o.mono ?_;rintro e w4 ⟨u4,z4,b4,⟨v4,g4,rfl,hp4,hg4⟩,hq4,hr4⟩;obtain⟨a4,cp4,rfl, -,-⟩:=TSl.form hp4;have HQ4:=hZ hq4;have HG4:=hZ hg4;have HP4:=hZ hp4;have HX4:=hZ (HXd.o.step hr4 hlb);have c4:w4.cell? ⟨bd,15,none⟩=some (v):=HX4.o.d.cell 15;clear hq4 hg4 hp4 hr4 HXd HC3 cd hHeld
  go_wp2_with fail
  refine hK.out _ _ (c4) (fun hHeld=> ?_);clear hK K
  try simp only[Act.put,sX1,sX2,sX3]
  clear c4;obtain⟨w5,hw5⟩:=eX (w4.alloc (.cells #[.slice a4 g4.length cp4] 31));have hB5:Below w4.heap.size w4 w5:=by rw[<-hw5];exact qAa _ _
  have HW5:Hid (qAC w5 w4.heap.size 31 [.slice a4 g4.length cp4]):=hZ (by rw[<-hw5];exact qAC.new _ _ _);have HX5:=hZ (HX4.o.below hB5 hlb);have HP5:=hZ (HP4.o.kp (KpX.of_below (X:=[]) hB5) (by simp));have HO5:=hZ HX5.o.o;have HK5:=hZ HX5.o.k.size;have c5:w5.cell? ⟨bd,15,none⟩=some (v):=HX5.o.d.cell 15;have hac:acc.length<=100001:=by have:=HL.o;simp at this;omega
  clear hB5 HX4 HP4;refine eU 7 fun K hK=> ?_;go_simp;clear hw5 hHeld
  go_wp2_with fail
  refine hK.out _ _ (c5) (fun hHeld=> ?_);clear hK K
  try simp only[Act.put,sX1,sX2,sX3]
  clear c5;refine eU 8 fun K hK=> ?_;refine qBg (W0:=w5) qEa rfl _ _ rfl [.slice a4 g4.length cp4] w4.heap.size _ _ _ rfl rfl HW5.o rfl (by simp[Value.oneCell']) HO5.o (Below.refl _ _) HK5.o (by omega) (by omega) ?_;intro g6 cap6 w6 HO6 HB6 HF6 hcap6 hcap6b;have HK6:=hZ (KpX.own (X:=[31]) HO5.o HF6.o (by simp));have HQ6:=hZ (HX5.o.q.kp HK6.o (by decide) (by decide));have HD6:Hid (QD w6 bd d { y with r:=v }):=hZ (HK6.o _ _ bd (by decide) HX5.o.d);have HY6:=hZ (HX5.o.l.kp HK6.o (by decide) (by decide));have HU6:=hZ ((HX5.o.u.kp HK6.o (by decide)).snoc (HP5.o.kp HK6.o (by decide)));have HR6:=hZ (HX5.o.k.behind HB6.o);clear HO5 HK5 HX5 HK6 HB6 HF6 HW5 HP5;have c6:w6.cell? ⟨bd,15,none⟩=some (v):=HD6.o.cell 15;have f6:=HD6.o.frozen 15;obtain⟨acc',ha'⟩:∃acc',acc'=acc++[g4]:=⟨_,rfl⟩;obtain⟨us',hu'⟩:∃us',us'=us++[Value.slice a4 g4.length cp4]:=⟨_,rfl⟩;have hal:(acc:List (List Pr)).length+1=acc'.length:=by rw[ha'];simp
  rw[<-ha',<-hu']at HU6;rw[hal,<-hu']at HO6;rw[hal];have Ha:=hZ ha';have Hal:=hZ hal;have HS:=HD6.o.setR (.slice (some ⟨g6,0,none⟩) acc'.length cap6);have HR7:=hZ (qBo HR6.o 15 (.slice (some ⟨g6,0,none⟩) acc'.length cap6));obtain⟨w7,hw7⟩:=eX (w6.setCell ⟨bd,15,none⟩ (.slice (some ⟨g6,0,none⟩) acc'.length cap6));rw[hw7]at HS HR7;have HX7:Hid (QZ w w7 b bd s T z4 b4 d y (.slice (some ⟨g6,0,none⟩) acc'.length cap6) us' acc'):=hZ ⟨HQ6.o.kp HS.2 (by decide) (by decide),HY6.o.kp HS.2 (by decide) (by decide),qBC HO6.o HS.2 (by decide),HU6.o.kp HS.2 (by decide),HR7.o,HS.1⟩;clear HS HR7 HR6 HY6 HQ6 HD6 HO6 HU6 hHeld ha' hu' hal hcap6 hcap6b
  go_wp2_with fail
  refine hK.out _ _ (c6) (fun hHeld=> ?_);clear hK K
  try simp only[Act.put,sX1,sX2,sX3]
  refine pU 9 28 ?_;refine pU 10 29 ?_;refine lU 11 fun K hK=> ?_;go_simp;refine hK.out _ _ ?_;clear hK K
  try simp only[Act.put,sX1,sX2,sX3]
  refine dU ?_;clear hHeld;clear hw7 c6 f6
  go_wp2_with fail
  go_roundw
  case rel=>
   obtain⟨rfl,rfl⟩:=HP3.o;have HT:=HA.o.next (by rw[<-Hsy.o];exact Hix.o) HQ4.o HG4.o;exact⟨acc',us',_,z4,b4,hZ (by rw[Ha.o];exact HT.1),hZ (by have h8:=HT.2;have h7:=HL.o;have:=Hal.o;have h6:=qKy Hix.o;cases b4<;>simp at h7 h8 ⊢ <;>omega),HX7⟩
  case measure=>
   obtain⟨rfl,rfl⟩:=HP3.o;have HT:=HA.o.next (by rw[<-Hsy.o];exact Hix.o) HQ4.o HG4.o;rw[HX7.o.q.m2 true,HX1.o.q.m2 true];have h8:=HT.2;cases b4<;>simp at h8 ⊢ <;>omega
theorem qKv(z:List Tok)(i:Nat)(hi:i<qAh.length):isT 0 qAh[i] z=decide (qBv z=some i):=by
 unfold qBv;cases z with
 |nil=>simp[isT,List.findIdx?_eq_none_iff.2]
 |cons t r=>
  have h5:i=0\/i=1\/i=2\/i=3\/i=4:=by simp[qAh]at hi;omega
  have e:∀x:Bs,isT 0 x (t::r)=t.is 0 x:=fun _=>rfl;simp only[e];unfold Tok.is;by_cases hk:t.kind==0
  ·simp only[hk,Bool.true_and]
   by_cases h0:t.text=qCw
   ·rw[h0];rcases h5 with rfl|rfl|rfl|rfl|rfl<;>rfl
   by_cases h1:t.text=qC0
   ·rw[h1];rcases h5 with rfl|rfl|rfl|rfl|rfl<;>rfl
   by_cases h2:t.text=qBJ
   ·rw[h2];rcases h5 with rfl|rfl|rfl|rfl|rfl<;>rfl
   by_cases h3:t.text=qDi
   ·rw[h3];rcases h5 with rfl|rfl|rfl|rfl|rfl<;>rfl
   by_cases h4:t.text=qHj
   ·rw[h4];rcases h5 with rfl|rfl|rfl|rfl|rfl<;>rfl
   have g0:(t.text==qCw)=false:=by simpa using h0
   have g1:(t.text==qC0)=false:=by simpa using h1
   have g2:(t.text==qBJ)=false:=by simpa using h2
   have g3:(t.text==qDi)=false:=by simpa using h3
   have g4:(t.text==qHj)=false:=by simpa using h4
   have e0:(qCw.isEmpty)=false:=rfl;have e1:(qC0.isEmpty)=false:=rfl;have e2:(qBJ.isEmpty)=false:=rfl;have e3:(qDi.isEmpty)=false:=rfl;have e4:(qHj.isEmpty)=false:=rfl;have hn:qAh.findIdx? (fun x=>x.isEmpty||t.text==x)=none:=by simp[qAh,List.findIdx?_cons,g0,g1,g2,g3,g4,e0,e1,e2,e3,e4]
   rw[hn];rcases h5 with rfl|rfl|rfl|rfl|rfl<;>simp[qAh,g0,g1,g2,g3,g4,e0,e1,e2,e3,e4]
  ·rw[Bool.not_eq_true]at hk
   simp[hk,List.findIdx?_eq_none_iff.2]
def BR(j:Nat)(d:Dc)(bad:Bool)(z:List Tok)(u:Option Dc)(bad':Bool)(z':List Tok):Prop:=
 if bad then bad'=true/\z'=z/\u=none else
 match qA3 j d z with
 |.ok (x,r)=>u=some x/\bad'=false/\z'=r
 |.error r=>u=none/\z'=r/\(bad'=true\/isX [59] r=false)
theorem BR.flags{j:Nat}{d:Dc}{bad bad':Bool}{z z':List Tok}{u:Option Dc}(hj:j<=2)(hd:d.kind=j)(h:FR bad z d u bad' z'):BR j d bad z u bad' z':=by
 unfold BR;unfold FR at h;have:qA3 j d z=qAT (qBP d.kind) (z.length+1) [] d z:=by
  unfold qA3 qBP;by_cases h0:j=0
  ·rw[if_pos h0,if_pos (show d.kind=0 by omega)]
  ·rw[if_neg h0,if_pos hj,if_neg (show ¬d.kind=0 by omega)]
 rw[this];exact h
theorem BR.of_qr{j:Nat}{d:Dc}{bad bad':Bool}{z z':List Tok}{u:Option Dc}{p:List Tok->Rd Dc}(hp:qA3 j d z=p z)(h:QR p bad z u bad' z'):BR j d bad z u bad' z':=by
 unfold BR;rw[hp];unfold QR at h;cases bad with
 |true=>exact h
 |false=>
  simp only[Bool.false_eq_true,if_false]at h ⊢;cases hq:p z with
  |error r=>rw[hq]at h;exact⟨h.2.2,h.2.1,.inl h.1⟩
  |ok a=>rw[hq]at h;exact h
theorem qJK{z z2 z3 z4:List Tok}{j:Nat}{u2:Option (Bs×Int)}{u3:Option Dc}{u4:Option Unit}{b2 b3 b4:Bool}(hk:qBv z=some j)(h2:QR qJX false (z.drop 1) u2 b2 z2)
 (h3:BR j (Dc.zero j ((u2.map (·.1)).getD []) ((u2.map (·.2)).getD 0)) b2 z2 u3 b3 z3)(h4:QR (pX [59]) b3 z3 u4 b4 z4)(hX:isX [59] z3=isT 2 [59] z3):QR qA6 false z (if b4 then none else u3) b4 z4:=by
 obtain⟨u9, -,h5⟩:=QR.tok (k:=2) (by decide) hX h4;unfold QR at h2;simp only[Bool.false_eq_true,if_false]at h2;rw[qJi]at h2;cases e1:qAL 0 [] (z.drop 1)with
 |error r=>
  rw[e1]at h2;obtain⟨rfl,rfl,rfl⟩:=h2;obtain⟨rfl,rfl,rfl⟩:=h3;obtain⟨rfl,rfl,rfl⟩:=h4;exact QR.err (by unfold qA6;rw[hk];simp only[e1])
 |ok a=>
  rw[e1]at h2;obtain⟨rfl,rfl,rfl⟩:=h2;unfold BR at h3;simp only[Bool.false_eq_true,if_false]at h3
  change (match qA3 j (Dc.zero j a.1.text a.1.at_) a.2 with|.ok (x,r)=>u3=some x/\b3=false/\z3=r|.error r=>u3=none/\z3=r/\(b3=true\/isX [59] r=false))at h3
  cases e2:qA3 j (Dc.zero j a.1.text a.1.at_) a.2 with
  |error r=>
   rw[e2]at h3;obtain⟨rfl,rfl,h6⟩:=h3;have:b4=true/\z4=z3:=by
    cases b3 with
    |true=>exact⟨h4.1,h4.2.1⟩
    |false=>
     have h7:isX [59] z3=false:=by rcases h6 with h6|h6;cases h6;exact h6
     unfold QR at h4;rw[qEJ,h7]at h4;exact⟨h4.1,h4.2.1⟩
   obtain⟨rfl,rfl⟩:=this;exact QR.err (by unfold qA6;rw[hk];simp only[e1,e2])
  |ok c=>
   rw[e2]at h3;obtain⟨rfl,rfl,rfl⟩:=h3;unfold QR at h5;simp only[Bool.false_eq_true,if_false]at h5;cases e3:qAL 2 [59] c.2 with
   |error r=>
    rw[e3]at h5;obtain⟨rfl,rfl,rfl⟩:=h5;exact QR.err (by unfold qA6;rw[hk];simp only[e1,e2,e3])
   |ok m=>
    rw[e3]at h5;obtain⟨rfl,rfl,rfl⟩:=h5;exact QR.ok (by unfold qA6;rw[hk];simp only[e1,e2,e3])
def qK9(w:World):World:=((w.alloc (.cells (dcC (Dc.zero 0 [] 0) ls0).toArray 35)).alloc (.cells (dcC (Dc.zero (-1) [] 0) ls0).toArray 35)).alloc (.cells (qAh.map sv8).toArray 9)
structure QF(w0 w:World)(b:Nat)(s:ByteArray)(T z:List Tok)(bad:Bool)(d:Dc)(o:Bool):Prop where
 e:QE w b (w0.heap.size+1) s T z bad d
 n:o=true->QD w (w0.heap.size+1) d ls0
 r:w.heap[w0.heap.size]? =some (.cells (dcC (Dc.zero 0 [] 0) ls0).toArray 35 (0,0))
 g:w.heap[w0.heap.size+2]? =some (.cells (qAh.map sv8).toArray 9 (0,0))
 k:qAf (fun k=>k=b) w0 w
theorem qJm{w0 w w':World}{b:Nat}(h:qAf (fun k=>k=b) w0 w)(ho:qAf (S2 b (w0.heap.size+1)) w w'):qAf (fun k=>k=b) w0 w':=by
 refine⟨ho.os.trans h.os,ho.tape.trans h.tape,ho.output.trans h.output,Nat.le_trans h.size ho.size,fun k hk hn=> ?_⟩;rw[ho.block k (Nat.lt_of_lt_of_le hk h.size) (fun hs=>by rcases hs with hs|hs;exact hn hs;omega)];exact h.block k hk hn
theorem QF.step{w0 w w':World}{b:Nat}{s:ByteArray}{T z z':List Tok}{bad bad':Bool}{d d':Dc}{o o':Bool}(h:QF w0 w b s T z bad d o)(hb:b<w0.heap.size)(he:QE w' b (w0.heap.size+1) s T z' bad' d')(ho:qAf (S2 b (w0.heap.size+1)) w w')(hn:o'=true->QD w' (w0.heap.size+1) d' ls0):QF w0 w' b s T z' bad' d' o':=by
 refine⟨he,hn,?_,?_,qJm h.k ho⟩
 ·rw[ho.block _ (qAn h.r) (fun hs=>by rcases hs with hs|hs<;>omega)]
  exact h.r
 ·rw[ho.block _ (qAn h.g) (fun hs=>by rcases hs with hs|hs<;>omega)]
  exact h.g
theorem QF.ok{w0 w w':World}{b:Nat}{s:ByteArray}{T z z':List Tok}{bad bad':Bool}{d:Dc}{o:Bool}(h:QF w0 w b s T z bad d o)(hb:b<w0.heap.size)(hq:QOk w w' b s T z' bad'):QF w0 w' b s T z' bad' d o:=h.step hb (h.e.ok hq) (hq.two _) (fun ho=>h.e.q.kpx hq.2 _ _ _ (by decide) (h.n ho))
theorem QF.below{w0 w w':World}{b:Nat}{s:ByteArray}{T z:List Tok}{bad:Bool}{d:Dc}{o:Bool}(h:QF w0 w b s T z bad d o)(hb:b<w0.heap.size)(hB:Below w.heap.size w w'):QF w0 w' b s T z bad d o:=h.ok hb ⟨h.e.q.below hB,qAf.of_below hB⟩
theorem qEr(w:World)(d:Dc)(h1:d.take=[])(h2:d.give=[])(h3:d.back=[])(h4:d.rows=[])(h5:d.brs=[]):LRef w d ls0:=by
 refine⟨?_,?_,?_,?_,?_⟩
 ·rw[h1];exact TSl.nil _ _ (by omega)
 ·rw[h2];exact TSl.nil _ _ (by omega)
 ·rw[h3];exact TSl.nil _ _ (by omega)
 ·rw[h4];exact TSl.nil _ _ (by omega)
 ·rw[h5];exact TSl.nil _ _ (by omega)
theorem QF.start{w:World}{b:Nat}{s:ByteArray}{T z:List Tok}{bad:Bool}(h:QS w b s T z bad):QF w (qK9 w) b s T z bad (Dc.zero (-1) [] 0) true:=by
 have hB:Below w.heap.size w (qK9 w):=(qCL w _ _).trans ((qAa _ _).mono (by simp[World.size_alloc];omega));have hD:QD (qK9 w) (w.heap.size+1) (Dc.zero (-1) [] 0) ls0:=by
  show(((w.heap.push _).push _).push _)[w.heap.size+1]? =_
  rw[Array.getElem?_push,if_neg (by simp),Array.getElem?_push,if_pos (by simp)]
 refine⟨⟨h.below hB,ls0,hD,qEr _ _ rfl rfl rfl rfl rfl⟩,fun _=>hD,?_,?_,qAf.of_below hB⟩
 ·show(((w.heap.push _).push _).push _)[w.heap.size]? =_
  rw[Array.getElem?_push,if_neg (by simp;omega),Array.getElem?_push,if_neg (by simp),Array.getElem?_push,if_pos (by simp)]
 ·show(((w.heap.push _).push _).push _)[w.heap.size+2]? =_
  rw[Array.getElem?_push,if_pos (by simp)]
theorem QF.put{w0 w:World}{b:Nat}{s:ByteArray}{T z:List Tok}{bad:Bool}{d d':Dc}(h:QF w0 w b s T z bad d true)(hb:b<w0.heap.size)(j:Nat)(u:Value)(e1:(dcC d ls0).set j u=dcC d' ls0)(h1:d'.take=[])(h2:d'.give=[])(h3:d'.back=[])(h4:d'.rows=[])(h5:d'.brs=[]):QF w0 (w.setCell ⟨w0.heap.size+1,j,none⟩ u) b s T z bad d' true:=by
 have hd:=h.n rfl;refine h.step hb (QE.put h.e.q hd j u e1 (qEr _ _ h1 h2 h3 h4 h5)) (qBo (qAf.refl _ _) j u) (fun _=> ?_);unfold QD at hd ⊢;simp[World.setCell,Array.getElem?_modify,hd,<-e1]
theorem qJb(b bd:Nat)(s:ByteArray)(T z:List Tok)(bad:Bool)(d:Dc)(w:World)(hw:WfL T)(h:QS w b s T z bad)(hd:QD w bd d ls0)(hy:LRef w d ls0):
 Calls Tryz.prog 67 #[.pointer (some ⟨b,0,none⟩),.pointer (some ⟨bd,0,none⟩)] w (qEH b bd s T (BR 3 d bad z) w):=by
 refine(qH7 b bd s T z bad d ls0 w hw h hd ⟨hy.t,hy.g,hy.b,hy.x⟩ rfl).mono ?_;rintro e w' ⟨h1,u,z',bad',d',h2,h3⟩;exact⟨h1,u,z',bad',d',BR.of_qr (by unfold qA3 qCq;simp only[show ¬(3:Nat)=0 by decide,show ¬(3:Nat)<=2 by decide,if_false,if_true];cases qBj (z.length+1) z<;>rfl) h2,h3⟩
theorem qH6(b bd:Nat)(s:ByteArray)(T z:List Tok)(bad:Bool)(d:Dc)(w:World)(hw:WfL T)(h:QS w b s T z bad)(hd:QD w bd d ls0)(hy:LRef w d ls0):
 Calls Tryz.prog 68 #[.pointer (some ⟨b,0,none⟩),.pointer (some ⟨bd,0,none⟩)] w (qEH b bd s T (BR 4 d bad z) w):=by
 refine(qHs b bd s T z bad d ls0 w hw h hd ⟨hy.t,hy.g,hy.b,hy.r⟩ rfl).mono ?_;rintro e w' ⟨h1,u,z',bad',d',h2,h3⟩;exact⟨h1,u,z',bad',d',BR.of_qr (by unfold qA3 qEK;simp only[show ¬(4:Nat)=0 by decide,show ¬(4:Nat)<=2 by decide,show ¬(4:Nat)=3 by decide,if_false];cases qDa z<;>rfl) h2,h3⟩
theorem qH9(b bd:Nat)(s:ByteArray)(T z:List Tok)(bad:Bool)(d:Dc)(j:Nat)(w:World)(hw:WfL T)(h:QE w b bd s T z bad d)(hj:j<=2)(hd:d.kind=j):
 Calls Tryz.prog 69 #[.pointer (some ⟨b,0,none⟩),.pointer (some ⟨bd,0,none⟩)] w (qEH b bd s T (BR j d bad z) w):=by
 refine(qHt b bd s T z bad d w hw h).mono ?_;rintro e w' ⟨h1,u,z',bad',d',h2,h3⟩;exact⟨h1,u,z',bad',d',BR.flags hj hd h2,h3⟩
def DV(w:World)(e:Ending)(u:Option Dc):Prop:=∃d y,e=.returned (.agg (dcC d y).toArray)/\LRef w d y/\∀x,u=some x->d=x
theorem QF.words{w0 w:World}{b:Nat}{s:ByteArray}{T z:List Tok}{bad:Bool}{d:Dc}{o:Bool}(h:QF w0 w b s T z bad d o)(k:Nat)(hk:k<qAh.length):w.cell? ⟨w0.heap.size+2,k,none⟩=some (.string ⟨qAh[k].toArray⟩):=by
 rw[cell_of_row w _ k _ _ (0,0) h.g];simp[sv8,hk]
theorem qEf{w:World}{r:Nat}{cs:Array Value}{e:TypeId}(h:w.heap[r]? =some (.cells cs e (0,0)))(C:Array Value):KpX [e] w (w.setRow r C):=by
 intro e' cs' b he hb;have hne:¬r=b:=by
  rintro rfl;rw[h]at hb;injection hb with hb;injection hb with _ hb;exact he (by simp[hb])
 simp[World.setRow,Array.getElem?_modify,hne,hb]
theorem qDG{w:World}{r:Nat}{cs:Array Value}{e:TypeId}(h:w.heap[r]? =some (.cells cs e (0,0)))(C:Array Value):(w.setRow r C).heap[r]? =some (.cells C e (0,0)):=by
 simp[World.setRow,Array.getElem?_modify,h]
theorem qC7{w0 w:World}{b:Nat}(h:qAf (fun k=>k=b) w0 w)(C:Array Value):qAf (fun k=>k=b) w0 (w.setRow w0.heap.size C):=by
 refine⟨h.os,h.tape,h.output,Nat.le_trans h.size (by simp[World.setRow]),fun k hk hn=> ?_⟩;have hne:¬w0.heap.size=k:=by omega
 rw[<-h.block k hk hn];simp[World.setRow,Array.getElem?_modify,hne]
theorem qFA{w:World}{bd:Nat}{d:Dc}{y:Ls}(_:∃y,QD w bd d y/\LRef w d y)(_:QD w bd d y)(h:LRef w d y):(dcC d y).toArray.all (·.oneCell')=true:=by
 obtain⟨_,_,e1, -,-⟩:=TSl.form h.t;obtain⟨_,_,e2, -,-⟩:=TSl.form h.g;obtain⟨_,_,e3, -,-⟩:=TSl.form h.b;obtain⟨_,_,e4, -,-⟩:=TSl.form h.r;obtain⟨_,_,e5, -,-⟩:=TSl.form h.x;simp[dcC,e1,e2,e3,e4,e5,Value.oneCell']
def DR(w wc:World)(b:Nat)(s:ByteArray)(T z:List Tok)(bad:Bool):Prop:=
 ((if bad then none else qBv z)=none/\QF w wc b s T z bad (Dc.zero (-1) [] 0) true)\/(∃j:Nat,bad=false/\qBv z=some j/\QF w wc b s T (z.drop 1) false (Dc.zero j [] 0) true)
def DB2(w wc:World)(b:Nat)(s:ByteArray)(T:List Tok)(j:Nat)(d:Dc)(b2:Bool)(z2:List Tok):Prop:=
 ∃u z' b' d',BR j d b2 z2 u b' z'/\(∀x,u=some x->d'=x)/\QF w wc b s T z' b' d' false
theorem qIb(b:Nat)(s:ByteArray)(T z:List Tok)(bad:Bool)(w:World)(hw:WfL T)(h:QS w b s T z bad):
 Calls Tryz.prog 37 #[.pointer (some ⟨b,0,none⟩)] w (qJU b s T qA6 bad z w DV):=by
 have hlb:=h.lt;have HF0:=hZ (QF.start h);have HW:=hZ hw;obtain⟨m,hm⟩:∃m:Option Nat,(if bad then none else qBv z)=m:=⟨_,rfl⟩;have HM:Hid (∀i (hi:i<qAh.length),(!bad && isX qAh[i] z)=decide (m=some i)):=hZ (fun i hi=>by
  have hx:isX qAh[i] z=isT 0 qAh[i] z:=h.word hw (by have:=List.getElem_mem hi;revert this;generalize qAh[i]=x;revert x;decide);rw[hx,qKv z i hi,<-hm];cases bad<;>simp)
 have HMb:Hid (m=(if bad then none else qBv z)):=hZ hm.symm;clear h hw hm
 go_enter Tryz.func37,Tryz.ntmps37
 go_upto_region 3 with fail
 change Code.wp _ _ _ _ (qK9 w)
 obtain⟨w1,hw1⟩:=eX (qK9 w);rw[hw1]at HF0;rw[hw1];clear hw1
 go_upto_block 0 with fail
 go_cut []from 5 (fun wc=>Hid (DR w wc b s T z bad))
 case first=>
  go_wp2_with fail
  go_loopw [5] (fun iv wr=>∃k:Nat,k<=5/\iv=.int .i64 k/\((Hid (∀i,m=some i->k<=i)/\Hid (QF w wr b s T z bad (Dc.zero (-1) [] 0) true))\/(Hid (m=some (k-1)/\0<k)/\Hid (QF w wr b s T (z.drop 1) false (Dc.zero (k-1:Nat) [] 0) true)))) (fun iv _=>5-(intOf iv).toNat)
  case atStart=>exact⟨0,by omega,rfl,.inl ⟨hZ (fun _ _=>Nat.zero_le _),HF0⟩⟩
  case round=>
   clear HF0;obtain⟨k,hk,rfl,⟨HN,HF⟩|⟨HN,HF⟩⟩:=hrel
   ·obtain⟨y,hd,-⟩:=HF.o.e.d
    have c0:wr.cell? ⟨w.heap.size+1,0,none⟩=some (.int .i64 (-1)):=hd.cell 0;have f0:=hd.frozen 0;clear hd;by_cases hlt:k<5
    ·have cw:=HF.o.words k hlt
     have hn0:(0:Int)<=(k:Int):=by omega
     have hn1:(k:Int)<5:=by omega
     obtain⟨x,hx⟩:=eX (qAh[k]'hlt);have his:=HM.o k hlt;rw[hx]at cw his;have His:=hZ his;have Hx:=hZ hx;have HC:=hZ (qC8 b s T z bad x wr HF.o.e.q);clear hx his
     go_wp2_with fail
     refine HC.o.mono ?_;rintro e w2 ⟨rfl,hB2⟩;have HF2:=hZ (HF.o.below hlb hB2);clear hB2 HC HF c0 f0 cw;by_cases hmk:m=some k
     ·rw[show(!bad && isX x z)=true by rw[His.o];simpa using hmk]
      have hbx:(!bad && isX x z)=true:=by rw[His.o];simpa using hmk
      obtain⟨rfl,hix⟩:bad=false/\isX x z=true:=by simpa using hbx
      have Hix:=hZ hix;have Hmk:=hZ hmk;have cw2:=HF2.o.words k hlt;rw[Hx.o]at cw2;have HC2:=hZ (qAX b s T z false x w2 HF2.o.e.q);clear hbx hix hmk
      go_wp2_with fail
      refine HC2.o.mono ?_;rintro e w3 ⟨u3,z3,b3,rfl,hq3,hr3⟩;have HP3:Hid (b3=false/\z3=z.drop 1):=hZ (by
       unfold QR at hq3;rw[qEJ,Hix.o]at hq3;simp at hq3;exact⟨hq3.2.1,by rw[hq3.2.2];simp⟩)
      have HF3:=hZ (HF2.o.ok hlb hr3);obtain⟨y3,hd3,hy3⟩:=HF3.o.e.d;have c0:w3.cell? ⟨w.heap.size+1,0,none⟩=some (.int .i64 (-1)):=hd3.cell 0;have f0:=hd3.frozen 0;have HF4:Hid (QF w _ b s T z3 b3 (Dc.zero (k:Int) [] 0) true):=hZ (HF3.o.put hlb 0 (.int .i64 k) rfl rfl rfl rfl rfl rfl);clear hd3 hy3 hq3 hr3 HF2 HC2 cw2
      go_wp2_with fail
      go_roundw
      case rel=>
       obtain⟨rfl,rfl⟩:=HP3.o;exact⟨k+1,by omega,by go_num,.inr ⟨hZ ⟨Hmk.o,by omega⟩,HF4⟩⟩
      case measure=>simp[intOf];omega
     ·rw[show(!bad && isX x z)=false by rw[His.o];simpa using hmk]
      have HN2:Hid (∀i,m=some i->k+1<=i):=hZ (fun i hi=>by
       have:=HN.o i hi;have:k≠i:=by rintro rfl;exact hmk hi
       omega)
      clear hmk
      go_wp2_with fail
      go_roundw
      case rel=>exact⟨k+1,by omega,by go_num,.inl ⟨HN2,HF2⟩⟩
      case measure=>simp[intOf];omega
    ·obtain rfl:k=5:=by omega
     have hmn:m=none:=by
      cases hm:m with
      |none=>rfl
      |some i=>
       have h1:=HN.o i hm;have h2:=HMb.o;rw[hm]at h2;cases bad with
       |true=>cases h2
       |false=>
        have:=(qDs (l:=z) (k:=i) h2.symm).1;omega
     rw[HMb.o]at hmn;have HD:Hid (DR w wr b s T z bad):=hZ (.inl ⟨hmn,HF.o⟩);clear hmn HN hlt
     go_wp2_with fail
     go_meet
     case rel=>exact HD
   ·obtain⟨hmk,hk0⟩:=HN.o
    have HD:Hid (DR w wr b s T z bad):=hZ (by
     have h9:=HMb.o;rw[hmk]at h9;cases bad with
     |true=>cases h9
     |false=>exact .inr ⟨k-1,rfl,h9.symm,HF.o⟩)
    have c0:wr.cell? ⟨w.heap.size+1,0,none⟩=some (.int .i64 (k-1:Nat)):=(HF.o.n rfl).cell 0;have f0:=(HF.o.n rfl).frozen 0;obtain⟨j,hj⟩:=eX (k-1);rw[hj]at c0;have hjn:¬(j:Int)<0:=by omega
    clear HN HF hmk hk0 hj;have hlt:(k:Int)<5\/ ¬(k:Int)<5:=by omega
    rcases hlt with hlt|hlt
    all_goals
     (go_wp2_with fail
      go_meet
      case rel=>exact HD)
 case rest=>
  clear HF0 HM HMb;obtain⟨hmn,hF⟩|⟨j,rfl,hpk,hF⟩:=hcut.o
  ·have Hmn:=hZ hmn
   have HF:=hZ hF;obtain⟨y,hd,-⟩:=hF.e.d;have c0:wc.cell? ⟨w.heap.size+1,0,none⟩=some (.int .i64 (-1)):=hd.cell 0;have f0:=hd.frozen 0;clear hd hmn hF hcut;obtain⟨v8,i8,hq8,-⟩:=HF.o.e.q;have c3:wc.cell? ⟨b,3,none⟩=some (.bool bad):=hq8.cell 3;have f3:=hq8.frozen 3;clear hq8;have HF9:=hZ (HF.o.ok hlb HF.o.e.q.setBad);obtain⟨w9,hw9⟩:=eX (wc.setCell ⟨b,3,none⟩ (.bool true));rw[hw9]at HF9
   go_upto_region 11 with fail
   clear c3 f3 c0 f0 hw9 HF;obtain⟨y9,hd9,hy9⟩:=HF9.o.e.d;have hsz:(dcC (Dc.zero (-1) [] 0) y9).toArray.size=17:=rfl;have hon:=qFA HF9.o.e.d hd9 hy9;have hr9:QD w9 w.heap.size (Dc.zero 0 [] 0) ls0:=HF9.o.r;have hX9:KpX [35] w9 ((w9).setRow w.heap.size (dcC (Dc.zero (-1) [] 0) y9).toArray):=qEf hr9 _;have hR9:=qDG hr9 (dcC (Dc.zero (-1) [] 0) y9).toArray;have HE9:=hZ (hy9.kp hX9 (by decide) (by decide) (by decide));have HQ9:=hZ (HF9.o.e.q.kp hX9 (by decide) (by decide));have HK9:=hZ (qC7 HF9.o.k (dcC (Dc.zero (-1) [] 0) y9).toArray);obtain⟨C,hC⟩:=eX ((dcC (Dc.zero (-1) [] 0) y9).toArray);unfold QD at hd9 hr9;rw[hC]at hsz hon hd9 hR9 HE9 HQ9 HK9;have HC:=hZ hC;clear hy9 hX9 hC;have hi9:(Tryz.prog.info? 35).map (·.size)=some C.size:=by rw[hsz];kernel_rfl
   go_wp2_with (first|refine wpList_load_row rfl _ _ rfl (w.heap.size+1) rfl _ C (0,0) _ hd9 Tryz.underlying35 rfl hi9 ?_|refine wpList_store_row rfl _ _ _ rfl w.heap.size C rfl rfl _ _ hr9 hi9 hsz.symm hon ?_)
   obtain⟨w10,hw10⟩:=eX ((w9).setRow w.heap.size C);rw[hw10]at hR9 HE9 HQ9 HK9;rw[hw10];clear hw10 hd9 hr9 hon hsz;refine bodyPost_ret (v:=.agg C) (results_cell_row rfl _ _ w.heap.size _ C (0,0) _ rfl hR9 Tryz.underlying35 rfl hi9) rfl ?_;clear hi9;rw[<-HC.o];refine⟨none,z,true,⟨_,_,rfl,HE9.o,nofun⟩,?_,HQ9.o,HK9.o⟩;have h9:=Hmn.o;cases bad with
   |true=>exact QR.bad
   |false=>exact QR.err (by unfold qA6;rw[show qBv z=none from h9])
  ·have Hpk:=hZ hpk
   have HF:=hZ hF;have hj5:j<5:=(qDs hpk).1;have c0:wc.cell? ⟨w.heap.size+1,0,none⟩=some (.int .i64 j):=(hF.n rfl).cell 0;have f0:=(hF.n rfl).frozen 0;have hjn:¬(j:Int)<0:=by omega
   have HC:=hZ (qFQ b s T (z.drop 1) false wc HF.o.e.q);clear hpk hF hcut
   go_wp2_with fail
   refine HC.o.mono ?_;rintro e w2 ⟨u2,z2,b2,rfl,hq2,hr2⟩;have HQ2:=hZ hq2;have HF2:=hZ (HF.o.ok hlb hr2);clear hq2 hr2 HC HF c0 f0;unfold qLp;obtain⟨nm,hnm⟩:=eX ((u2.map (·.1)).getD []);obtain⟨at2,hat⟩:=eX ((u2.map (·.2)).getD 0);rw[hnm,hat];have Hnm:=hZ hnm;have Hat:=hZ hat;clear hnm hat;have hd2:=HF2.o.n rfl;have c1:w2.cell? ⟨w.heap.size+1,1,none⟩=some (.string ⟨#[]⟩):=hd2.cell 1;have f2:=hd2.frozen;have HF3:Hid (QF w _ b s T z2 b2 (Dc.zero _ nm 0) true):=hZ (HF2.o.put hlb 1 (.string ⟨nm.toArray⟩) rfl rfl rfl rfl rfl rfl);obtain⟨w3,hw3⟩:=eX (w2.setCell ⟨w.heap.size+1,1,none⟩ (.string ⟨nm.toArray⟩));rw[hw3]at HF3;have hd3:=HF3.o.n rfl;have c2:w3.cell? ⟨w.heap.size+1,2,none⟩=some (.int .i64 0):=hd3.cell 2;have f3:=hd3.frozen;have HF4:Hid (QF w _ b s T z2 b2 (Dc.zero _ nm at2) true):=hZ (HF3.o.put hlb 2 (.int .i64 at2) rfl rfl rfl rfl rfl rfl);obtain⟨w4,hw4⟩:=eX (w3.setCell ⟨w.heap.size+1,2,none⟩ (.int .i64 at2));rw[hw4]at HF4;have hd4:=HF4.o.n rfl;have c0:=hd4.cell 0;simp only[dcC,List.getElem?_cons_zero,Dc.zero]at c0;clear HF2 HF3 hd2 hd3 hd4
   go_upto_block 2 with fail
   clear c0 c1 c2 f2 f3 hw3 hw4
   go_cut []from 47 (fun wc=>Hid (DB2 w wc b s T j (Dc.zero j nm at2) b2 z2))
   case first=>
    have hj:j=3\/j=4\/(j<=2/\¬(j:Int)=3/\¬(j:Int)=4):=by omega
    clear hj5 hjn;rcases hj with rfl|rfl|⟨hj2,hj3,hj4⟩
    all_goals
     (go_wp2_with fail
      first
       |refine(qJb b _ s T z2 b2 _ w4 HW.o HF4.o.e.q (HF4.o.n rfl) (qEr _ _ rfl rfl rfl rfl rfl)).mono ?_
       |refine(qH6 b _ s T z2 b2 _ w4 HW.o HF4.o.e.q (HF4.o.n rfl) (qEr _ _ rfl rfl rfl rfl rfl)).mono ?_
       |refine(qH9 b _ s T z2 b2 _ _ w4 HW.o HF4.o.e hj2 rfl).mono ?_
      rintro e w5 ⟨rfl,u5,z5,b5,d5,hr5,hu5,he5,ho5⟩;have HD5:=hZ (show DB2 w w5 b s T _ _ b2 z2 from⟨u5,z5,b5,d5,hr5,hu5,HF4.o.step hlb he5 ho5 nofun⟩);clear hr5 hu5 he5 ho5 HF4
      go_wp2_with fail
      go_meet
      case rel=>exact HD5)
   case rest=>
    obtain⟨u5,z5,b5,d5,hr5,hu5,hF5⟩:=hcut.o;have HR5:=hZ hr5;have HU5:=hZ hu5;have HF5:=hZ hF5;have HC5:=hZ (qAX b s T z5 b5 [59] _ hF5.e.q);have Hsy:=hZ (hF5.e.q.sym HW.o (x:=[59]) (by decide));clear hr5 hu5 hF5 HF4 hcut
    go_wp2_with fail
    refine HC5.o.mono ?_;rintro e w6 ⟨u6,z6,b6,rfl,hq6,hr6⟩;have HQ6:=hZ hq6;have HF6:=hZ (HF5.o.ok hlb hr6);clear hq6 hr6 HF5 HC5;obtain⟨y9,hd9,hy9⟩:=HF6.o.e.d;have hsz:(dcC (d5) y9).toArray.size=17:=rfl;have hon:=qFA HF6.o.e.d hd9 hy9;have hr9:QD w6 w.heap.size (Dc.zero 0 [] 0) ls0:=HF6.o.r;have hX9:KpX [35] w6 ((w6).setRow w.heap.size (dcC (d5) y9).toArray):=qEf hr9 _;have hR9:=qDG hr9 (dcC (d5) y9).toArray;have HE9:=hZ (hy9.kp hX9 (by decide) (by decide) (by decide));have HQ9:=hZ (HF6.o.e.q.kp hX9 (by decide) (by decide));have HK9:=hZ (qC7 HF6.o.k (dcC (d5) y9).toArray);obtain⟨C,hC⟩:=eX ((dcC (d5) y9).toArray);unfold QD at hd9 hr9;rw[hC]at hsz hon hd9 hR9 HE9 HQ9 HK9;have HC:=hZ hC;clear hy9 hX9 hC;have hi9:(Tryz.prog.info? 35).map (·.size)=some C.size:=by rw[hsz];kernel_rfl
    go_wp2_with (first|refine wpList_load_row rfl _ _ rfl (w.heap.size+1) rfl _ C (0,0) _ hd9 Tryz.underlying35 rfl hi9 ?_|refine wpList_store_row rfl _ _ _ rfl w.heap.size C rfl rfl _ _ hr9 hi9 hsz.symm hon ?_)
    obtain⟨w10,hw10⟩:=eX ((w6).setRow w.heap.size C);rw[hw10]at hR9 HE9 HQ9 HK9;rw[hw10];clear hw10 hd9 hr9 hon hsz;refine bodyPost_ret (v:=.agg C) (results_cell_row rfl _ _ w.heap.size _ C (0,0) _ rfl hR9 Tryz.underlying35 rfl hi9) rfl ?_;clear hi9;rw[<-HC.o];rw[<-Hnm.o,<-Hat.o]at HR5;refine⟨(if b6 then none else u5),z6,b6,⟨_,_,rfl,HE9.o,fun x hx=> ?_⟩,qJK Hpk.o HQ2.o HR5.o HQ6.o Hsy.o,HQ9.o,HK9.o⟩;cases b6 with
    |true=>cases hx
    |false=>exact HU5.o x hx
end Go.Proofs.YtpmnbcdjoomgcaaGreatDoor
