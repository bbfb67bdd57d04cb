/- The tokens of the text of declarations, and reading them, in plain Lean. -/
import Derived.Test.YtpmnbcdjoomgcaaGreatDoorQPQRead
import Derived.Test.YtpmnbcdjoomgcaaGreatDoorQPRef01
import Derived.Lib.Builder
import Derived.Lib.AppendStr
import Derived.Lib.UnsafeStr
set_option linter.unusedVariables false
set_option linter.unusedSimpArgs false
set_option maxHeartbeats 2000000
set_option maxRecDepth 100000
namespace Go.Proofs.YtpmnbcdjoomgcaaGreatDoor
open Go.RowKit
theorem KpX.behind{X:List TypeId}{w w' w2:World}(h:KpX X w w')(hb:Below w.heap.size w' w2):KpX X w w2:=fun e cs b he hh=>(hb.block b (qAn hh)).trans (h e cs b he hh)
theorem qBC{X:List TypeId}{w w':World}{base k n:Nat}{e:TypeId}{v:Value}{xs:List Value}(h:w.ownsRow base e k v n xs)(hk:KpX X w w')(he:e∉X):w'.ownsRow base e k v n xs:=by
 refine⟨h.1,?_⟩;rcases h.2 with h1|⟨g,cap,cur,h1,h2,h3,h4⟩
 ·exact .inl h1
 ·exact .inr ⟨g,cap,cur,h1,h2,hk _ _ g he h3,h4⟩
theorem qHf(b o j:Nat):(⟨b,o,none⟩:Addr).add j=⟨b,o+j,none⟩:=by unfold Addr.add;split<;>simp_all
theorem TSl.flat{α:Type}{e:TypeId}{k:Nat}{f:α->List Value}{w:World}{a:Option Addr}{n c:Nat}{xs:List α}(h:TSl e k (fun _ x cs=>cs=f x) w (.slice a n c) xs)(hk:∀x,(f x).length=k)(h0:0<k)(hne:xs≠[]):
 ∃ad,a=some ad/\n=xs.length/\∀j u,(xs.flatMap f)[j]? =some u->w.cell? (ad.add j)=some u:=by
 obtain⟨a',c',hv,h1,h2,h3⟩:=h;injection hv with e1 e2 e3;obtain⟨b,off,cs,ha,hb,hc⟩:=h3 hne;refine⟨⟨b,off,none⟩,e1.trans ha,e2,fun j u hu=> ?_⟩;rw[qHf,cell_of_row w b _ cs e (0,0) hb];have hl:(xs.flatMap f).length=xs.length*k:=by
  clear hu hc hb ha h3 h2 h1 e2 hne
  induction xs with
  |nil=>simp
  |cons x xs ih=>rw[List.flatMap_cons,List.length_append,ih,hk,List.length_cons,Nat.succ_mul];omega
 have hj:j<xs.length*k:=by
  rw[<-hl];exact(List.getElem?_eq_some_iff.1 hu).1
 have hq:j/k<xs.length:=Nat.div_lt_of_lt_mul (by rw[Nat.mul_comm];exact hj);have hm:j%k<k:=Nat.mod_lt _ h0;have hjj:j/k*k+j%k=j:=Nat.div_add_mod' j k;obtain⟨es,he,hes,hcc⟩:=hc (j/k) hq;have:=hcc (j%k) hm;rw[Nat.add_assoc,hjj]at this;rw[this,he];rw[List.flatMap_def]at hu;have h5:=qDd (xs.map f) k (j/k) (j%k) (by simp[hk]) (by simpa using hq) hm;rw[hjj,List.getElem_map]at h5;rw[<-h5];exact hu
theorem qCF(l:List Pr):(l.flatMap prC).length=l.length*3:=by
 induction l with
 |nil=>rfl
 |cons x l ih=>rw[List.flatMap_cons,List.length_append,ih,List.length_cons];simp[prC];omega
theorem qGp(l:List Pr):∀u∈l.flatMap prC,u.oneCell'=true:=by
 intro u hu;obtain⟨p,_,hp⟩:=List.mem_flatMap.1 hu;simp[prC]at hp;rcases hp with rfl|rfl|rfl<;>rfl
theorem qFn(w:World)(e:TypeId)(cs:List Value)(k base:Nat)(hk:cs.length=k)(hb:base<=w.heap.size):(w.alloc (.cells cs.toArray e)).ownsRow base e k (.slice (some ⟨w.heap.size,0,none⟩) 1 1) 1 cs:=by
 refine⟨by omega,.inr ⟨w.heap.size,1,cs.toArray,rfl,hb,heap_alloc_new w _,by omega,by unfold maxLen;omega,by simp;omega,?_⟩⟩;rw[List.take_of_length_le (by simp;omega)]
theorem qJj{l r:List Tok}{x:List Pr}(h:qAw l=.ok (x,r)):x≠[]:=by
 rw[qD5]at h;cases h1:qAP l with
 |error z=>rw[h1]at h;cases h
 |ok y=>
  obtain⟨n,l2⟩:=y;rw[h1]at h;simp only[]at h;cases h2:qAL 0 [] l2 with
  |error z=>rw[h2]at h;cases h
  |ok y=>
   obtain⟨t,l3⟩:=y;rw[h2]at h;simp only[]at h
   split at h
   ·cases h3:qAw (l3.drop 1)with
    |error z=>rw[h3]at h;cases h
    |ok y=>rw[h3]at h;cases h;simp
   ·cases h;simp
theorem qHw:∀(n:Nat) (l:List Tok) {x:List Pr} {r:List Tok},l.length<=n->qAw l=.ok (x,r)->x.length+r.length<=l.length:=by
 intro n
 induction n with
 |zero=>
  intro l x r hl h;obtain rfl:l=[]:=List.eq_nil_of_length_eq_zero (by omega);cases h
 |succ n ih=>
  intro l x r hl h;rw[qD5]at h;cases h1:qAP l with
  |error z=>rw[h1]at h;cases h
  |ok y=>
   obtain⟨n9,l2⟩:=y;rw[h1]at h;have e1:=qBb h1;simp only[]at h;cases h2:qAL 0 [] l2 with
   |error z=>rw[h2]at h;cases h
   |ok y=>
    obtain⟨t,l3⟩:=y;rw[h2]at h;have e2:=qAv h2;simp only[]at h
    split at h
    ·cases h3:qAw (l3.drop 1)with
     |error z=>rw[h3]at h;cases h
     |ok y=>
      rw[h3]at h;have:=ih (l3.drop 1) (x:=y.1) (r:=y.2) (by simp;omega) h3;cases h;simp at this ⊢;omega
    ·cases h;simp;omega
theorem qGC:qD4 Tryz.prog 51 50 1 24:=qD4.mk (z:=.slice none 0 0) Tryz.underlying51 (by kernel_rfl) rfl (by decide)
def qDQ(e:TypeId)(w:World)(us:List Value)(l:List (List Pr)):Prop:=us.length=l.length/\∀j (h:j<l.length) (h':j<us.length),qAA e w us[j] l[j]
theorem qDQ.nil(e:TypeId)(w:World):qDQ e w [] []:=⟨rfl,fun j h=>by simp at h⟩
theorem qDQ.kp{e:TypeId}{X:List TypeId}{w w':World}{us:List Value}{l:List (List Pr)}(h:qDQ e w us l)(hk:KpX X w w')(he:e∉X):qDQ e w' us l:=⟨h.1,fun j h1 h2=>(h.2 j h1 h2).kp hk he⟩
theorem qDQ.snoc{e:TypeId}{w:World}{us:List Value}{l:List (List Pr)}{u:Value}{r:List Pr}(h:qDQ e w us l)(hu:qAA e w u r):qDQ e w (us++[u]) (l++[r]):=by
 refine⟨by simp[h.1],fun j h1 h2=> ?_⟩;by_cases hj:j<l.length
 ·rw[List.getElem_append_left hj,List.getElem_append_left (by rw[h.1];exact hj)]
  exact h.2 j hj (by rw[h.1];exact hj)
 ·have h3:j=l.length:=by simp at h1;omega
  subst h3;have h4:=h.1;rw[List.getElem_append_right (Nat.le_refl _),List.getElem_append_right (by omega)];simpa using hu
theorem qDQ.rows{e et:TypeId}{w:World}{base:Nat}{v:Value}{us:List Value}{l:List (List Pr)}(h:qDQ e w us l)(ho:w.ownsRow base et 1 v l.length us):qAZ e et w v l:=by
 have hf:(us.map (fun u=>[u])).flatten=us:=by
  have:∀us:List Value,(us.map (fun u=>[u])).flatten=us:=by
   intro us
   induction us with
   |nil=>rfl
   |cons u us ih=>simp[ih]
  exact this us
 refine TSl.of_own (css:=us.map (fun u=>[u])) (base:=base) (n:=l.length) (by rw[hf];exact ho) rfl (by simp) (by simp[h.1]) ?_;intro j h1 h2;rw[List.getElem_map];exact⟨_,rfl,h.2 j h1 (by rw[h.1];exact h1)⟩
structure qKc(w:World)(d:Dc)(y:Ls):Prop where
 t:qAA 55 w y.t d.take
 g:qAA 55 w y.g d.give
 b:qAA 55 w y.b d.back
 x:qCM w y.x d.brs
theorem qKc.kp{X:List TypeId}{w w':World}{d:Dc}{y:Ls}(h:qKc w d y)(hk:KpX X w w')(h1:55∉X)(h3:98∉X):qKc w' d y:=
 ⟨h.t.kp hk h1,h.g.kp hk h1,h.b.kp hk h1,h.x.kp hk h3⟩
theorem qKc.kr{w w':World}{d:Dc}{y:Ls}(h:qKc w d y)(hk:KpX [70] w w'):qKc w' d y:=h.kp hk (by decide) (by decide)
def qCq(d:Dc)(l:List Tok):Rd Dc:=match qBj (l.length+1) l with|.error z=> .error z|.ok (x,r)=> .ok ({ d with rows:=x },r)
theorem qBU(f:Nat)(l:List Tok):qBj (f+1) l=match qCu l with
 |.error z=> .error z
 |.ok (x,l1)=>if isT 2 [43] l1 then qFF [x] (qBj f (l1.drop 1))else .ok ([x],l1):=by
 rw[qBj];cases qCu l with
 |error z=>rfl
 |ok y=>
  obtain⟨x,l1⟩:=y;simp only[]
  split
  ·cases qBj f (l1.drop 1)<;>rfl
  ·rfl
theorem qI9(b N:Nat)(d:Dc)(y:Ls)(l:List Tok)(w:World)(hr:Rdr w b N l (dcC d y))(hy:qKc w d y)(hv:y.r=.slice none 0 0)(hl:l.length<=100000):
 Calls Tryz.prog 58 #[.pointer (some ⟨b,0,none⟩)] w
  (qBs b N (qCq d l) w):=by
 have HR:=hZ hr;have hlt:=hr.lt;have H0:=hZ hl;have HY:=hZ hy;have HV:=hZ hv;clear hr hl hy hv
 go_enter Tryz.func58,Tryz.ntmps58
 go_wp2_with fail
 go_loopw [] (fun wr=>∃(acc:List (List Pr)) (us:List Value) (v:Value) (f1:Nat) (l1:List Tok),Hid (qBj (l.length+1) l=qFF acc (qBj (f1+1) l1))/\Hid (acc.length+l1.length<=100000/\l1.length<=f1)/\Hid (Rdr wr b N l1 (dcC d { y with r:=v }))/\
  Hid (wr.ownsRow w.heap.size 50 1 v acc.length us)/\Hid (qDQ 55 wr us acc)/\Hid (qKc wr d y)/\Hid (qAf (fun k=>k=b) w wr)) (fun wr=>qGx wr b)
 case atStart=>exact⟨[],[],_,l.length,l,hZ (qDp _).symm,hZ (by have:=H0.o;simp;exact this),hZ (by have:=HR.o;rw[<-HV.o];exact this),hZ (World.ownsRow_nil _ _ _ _),hZ (qDQ.nil _ _),HY,hZ (qAf.refl _ _)⟩
 case round=>
  obtain⟨acc,us,v,f1,l1,HE,HL,HR1,HO,HU,HY1,HK⟩:=hrel;clear HR HY;obtain⟨v1,hb1,ht1⟩:=HR1.o;have HC:=hZ (qAU b N v1 _ l1 1 [] wr hb1 ht1);clear hb1 ht1
  go_wp2_with fail
  refine HC.o.mono ?_;rintro e w2 (⟨t,l2,h1,rfl,hr2⟩|⟨z,h1,rfl,hr2⟩);rotate_left
  ·have HQ:Hid (qCu l1=.error z):=hZ (by unfold qCu;rw[h1])
   have HB:=hZ (HK.o.trans hr2);clear hr2 h1
   go_wp2_with fail
   exact⟨rfl,.inr ⟨z,by unfold qCq;rw[HE.o,qBU,HQ.o];rfl,rfl,HB.o⟩⟩
  have HT1:=hZ h1;have hl2:=qAv h1;have HO1:=HO;have HU1:=HU;have HK1:=HK;have HO2:=hZ (hr2.2.own HO1.o (fun k hk he=>by have:=(HO1.o.lt k hk).1;omega));have HU2:=hZ (HU1.o.kp (HR1.o.kpx hr2.2) (by decide));have HY2:=hZ (HY1.o.kr (HR1.o.kpx hr2.2));have HK2:=hZ (HK1.o.trans hr2.2);have HR2:Hid (Rdr w2 b N l2 _):=hZ hr2.1;clear hr2 h1 HO HU HK HO1 HU1 HY1 HK1;unfold qE9;obtain⟨w3,hw3⟩:=eX (w2.alloc (.cells #[.int .i64 t.kind,.string ⟨t.text.toArray⟩,.int .i64 t.n,.int .i64 t.at_] 105));have hB3:Below w2.heap.size w2 w3:=by rw[<-hw3];exact qAa _ _
  have t2:w3.cell? ⟨w2.heap.size,2,none⟩=some (.int .i64 t.n):=by rw[<-hw3];simp
  have t3:w3.cell? ⟨w2.heap.size,3,none⟩=some (.int .i64 t.at_):=by rw[<-hw3];simp
  have hz3:w2.heap.size<w3.heap.size:=by rw[<-hw3];simp
  have HO3:=hZ ((qAf.of_below (S:=fun _=>False) hB3).own HO2.o (fun _ _ h=>h));have HU3:=hZ (HU2.o.kp (KpX.of_below (X:=[]) hB3) (by simp));have HY3:=hZ (HY2.o.kp (KpX.of_below (X:=[]) hB3) (by simp) (by simp));have HK3:=hZ (HK2.o.trans (qAf.of_below hB3));have HR3:=hZ (HR2.o.below hB3);have hb2:b<w2.heap.size:=HR2.o.lt;obtain⟨v3,hb3,ht3⟩:=HR3.o;have HC3:=hZ (qAU b N v3 _ l2 2 [58] w3 hb3 ht3);clear hB3 hb3 ht3 HO2 HU2 HY2 HK2 HR2
  go_wp2_with fail
  refine HC3.o.mono ?_;rintro e w4 (⟨t4,l4,h1,rfl,hr4⟩|⟨z,h1,rfl,hr4⟩);rotate_left
  ·have HQ:Hid (qCu l1=.error z):=hZ (by unfold qCu;rw[HT1.o];simp only[h1])
   have HB:=hZ (HK3.o.trans hr4);clear hr4 h1
   go_wp2_with fail
   exact⟨rfl,.inr ⟨z,by unfold qCq;rw[HE.o,qBU,HQ.o];rfl,rfl,HB.o⟩⟩
  have HT4:=hZ h1;have hl4:=qAv h1;have s2:w4.cell? ⟨w2.heap.size,2,none⟩=some (.int .i64 t.n):=(hr4.2.cell (p:=⟨w2.heap.size,2,none⟩) (by simp;omega) hz3).trans t2;have s3:w4.cell? ⟨w2.heap.size,3,none⟩=some (.int .i64 t.at_):=(hr4.2.cell (p:=⟨w2.heap.size,3,none⟩) (by simp;omega) hz3).trans t3;have HO4:=hZ (hr4.2.own HO3.o (fun k hk he=>by have:=(HO3.o.lt k hk).1;omega));have HU4:=hZ (HU3.o.kp (HR3.o.kpx hr4.2) (by decide));have HY4:=hZ (HY3.o.kr (HR3.o.kpx hr4.2));have HK4:=hZ (HK3.o.trans hr4.2);have HR4:Hid (Rdr w4 b N l4 _):=hZ hr4.1;clear hr4 h1 HO3 HU3 HY3 HK3 HR3 t2 t3 hw3 HC3 HC;unfold qE9;obtain⟨w5,hw5⟩:=eX (w4.alloc (.cells #[.int .i64 t.n,.string ⟨#[]⟩,.int .i64 t.at_] 55));have hB5:Below w4.heap.size w4 w5:=by rw[<-hw5];exact qAa _ _
  have HO5:=hZ ((qAf.of_below (S:=fun _=>False) hB5).own HO4.o (fun _ _ h=>h));have HU5:=hZ (HU4.o.kp (KpX.of_below (X:=[]) hB5) (by simp));have HY5:=hZ (HY4.o.kp (KpX.of_below (X:=[]) hB5) (by simp) (by simp));have HK5:=hZ (HK4.o.trans (qAf.of_below hB5));have HR5:=hZ (HR4.o.below hB5);have HW5:Hid (w5.ownsRow w4.heap.size 55 3 (.slice (some ⟨w4.heap.size,0,none⟩) 1 1) 1 (prC ⟨t.n,[],t.at_⟩)):=hZ (by rw[<-hw5];exact qFn w4 55 (prC ⟨t.n,[],t.at_⟩) 3 w4.heap.size rfl (Nat.le_refl _));obtain⟨v5,hb5,ht5⟩:=HR5.o;have HC5:=hZ (qEv b N v5 _ l4 1 [] w5 hb5 ht5);have H45:=hZ (KpX.of_below (X:=[70]) hB5);have hz5:w4.heap.size<w5.heap.size:=by rw[<-hw5];simp
  have hb4:b<w4.heap.size:=HR4.o.lt;have HK4s:=hZ HK4.o.size;clear hB5 hb5 ht5 HO4 HK4 HR4;have hl14:l4.length+2=l1.length:=by omega
  by_cases hi:isT 1 [] l4=true
  ·rw[hi]at HC5
   have Hi:=hZ hi;have HC6:=hZ (qD6 b N _ l4 w5 HR5.o (by have:=HL.o;omega));clear hi
   go_wp2_with fail
   clear hw5 s2 s3;refine HC5.o.mono ?_;rintro e w' ⟨rfl,rfl⟩
   go_wp2_with fail
   refine HC6.o.mono ?_;rintro e w6 (⟨x,l6,u,h1,rfl,hp,hr6⟩|⟨z,h1,rfl,hr6⟩);rotate_left
   ·have HQ:Hid (qCu l1=.error z):=hZ (by unfold qCu;rw[HT1.o];simp only[HT4.o,Hi.o,if_true,h1])
    have HB:=hZ (HK5.o.trans hr6);clear hr6 h1
    go_wp2_with fail
    exact⟨rfl,.inr ⟨z,by unfold qCq;rw[HE.o,qBU,HQ.o];rfl,rfl,HB.o⟩⟩
   have HQ:Hid (qCu l1=.ok (⟨t.n,[],t.at_⟩::x,l6)):=hZ (by unfold qCu;rw[HT1.o];simp only[HT4.o,Hi.o,if_true,h1]);have HLr:Hid (l6.length<l1.length):=hZ (by have:=qDr _ l4 (Nat.le_refl _) h1;omega);have hxl:x.length<=100000:=by have:=qHw l4.length l4 (Nat.le_refl _) h1;have:=HL.o;omega
   have hxne:=qJj h1;have HO6:=hZ (hr6.2.own HO5.o (fun k hk he=>by have:=(HO5.o.lt k hk).1;omega));have HU6:=hZ (HU5.o.kp (HR5.o.kpx hr6.2) (by decide));have HY6:=hZ (HY5.o.kr (HR5.o.kpx hr6.2));have HK6:=hZ (HK5.o.trans hr6.2);have H56:=hZ hr6.2.size;have HW6:=hZ (hr6.2.own HW5.o (fun k hk he=>by have:=(HW5.o.lt k hk).1;omega));have HR6:Hid (Rdr w6 b N l6 _):=hZ hr6.1;have H46:=hZ (H45.o.trans (HR5.o.kpx hr6.2));clear HO5 HU5 HY5 HK5 HW5 HR5 HC6 HC5 h1 hr6 H45;obtain⟨au,cu,rfl, -,-⟩:=TSl.form hp;obtain⟨ad,rfl, -,hcs⟩:=TSl.flat hp (fun x=>rfl) (by decide) hxne;have hz6:w4.heap.size<=w6.heap.size:=Nat.le_trans (Nat.le_of_lt hz5) H56.o
   go_wp2_with (at_builtin;refine qCa (W0:=w6) qJ6 rfl _ _ rfl _ _ _ rfl ad x.length cu (x.flatMap prC) rfl (qCF x) hcs (qGp x) HW6.o (Below.refl _ _) hz6 (by omega) (by omega) ?_)
   intro v7 w7 HW7 HB7 HF7;have HX7:=hZ (KpX.own (X:=[55]) HW6.o HF7.o (by simp));have H47:=hZ (H46.o.behind HB7.o);have HO7:=hZ (qBC HO6.o HX7.o (by decide));have HU7:=hZ (HU4.o.kp H47.o (by decide));have HY7:=hZ (HY4.o.kr H47.o);have HK7:=hZ (HK6.o.behind (HB7.o.mono HK4s.o));have HR7:=hZ (HR6.o.kp HX7.o (by decide) (by decide));have HP7:Hid (qAA 55 w7 v7 (⟨t.n,[],t.at_⟩::x)):=hZ (qAA.of_own (base:=w4.heap.size) (by rw[List.length_cons,List.flatMap_cons,Nat.add_comm];exact HW7.o));obtain⟨a7,c7,hv7, -,-⟩:=TSl.form HP7.o;rw[List.length_cons]at hv7;subst hv7;clear HW7 HB7 HF7 HX7 H47 H46 HU4 HY4 HW6 HO6 HU6 HY6 HK6 HR6 hp hcs hxne hxl;have hac:acc.length<=100000:=by have:=HL.o;omega
   obtain⟨va,hba,hta⟩:=HR7.o;have c:w7.cell? ⟨b,17,none⟩=some v:=hba.cell 17;have f:=hba.frozen 17;have hlw:b<w7.heap.size:=hba.lt;clear hba hta
   go_wp2_with (at_builtin;refine qAB (W0:=w7) qGC rfl _ _ rfl [.slice a7 (x.length+1) c7] 50 _ _ _ rfl rfl rfl (by simp[Value.oneCell']) HO7.o (Below.refl _ _) HK7.o.size (by omega) (by omega) ?_)
   intro g8 cap8 w8 HO8 HB8 HW8 hcap8 hat8;have HX8:=hZ (KpX.own (X:=[50]) HO7.o HW8.o (by simp));have HR8:=hZ (HR7.o.kp HX8.o (by decide) (by decide));have HU8:=hZ ((HU7.o.kp HX8.o (by decide)).snoc (HP7.o.kp HX8.o (by decide)));have HY8:=hZ (HY7.o.kp HX8.o (by decide) (by decide));have HK8:=hZ (HK7.o.behind HB8.o);clear HO7 HR7 HU7 HY7 HK7 HX8 HB8 HW8 hat8 c f;obtain⟨v8,hb8,ht8⟩:=HR8.o;have c:w8.cell? ⟨b,17,none⟩=some v:=hb8.cell 17;have f:=hb8.frozen 17;obtain⟨acc',ha'⟩:∃acc',acc'=acc++[⟨t.n,[],t.at_⟩::x]:=⟨_,rfl⟩;have hal:acc.length+1=acc'.length:=by rw[ha'];simp
   rw[<-ha']at HU8;rw[hal]at HO8 ⊢;have Ha:=hZ ha';have Hal:=hZ hal;clear ha' hal hac;have HS:=hZ (hb8.setOk ht8 15 (.slice (some ⟨g8,0,none⟩) acc'.length cap8));obtain⟨w9,hw9⟩:=eX (w8.setCell ⟨b,17,none⟩ (.slice (some ⟨g8,0,none⟩) acc'.length cap8));rw[show(15+2:Nat)=17 from rfl,hw9]at HS;have HX9:=hZ (hb8.kpx HS.o.2);have HO9:=hZ (HS.o.2.own HO8.o (fun k hk he=>by have:=(HO8.o.lt k hk).1;omega));have HU9:=hZ (HU8.o.kp HX9.o (by decide));have HY9:=hZ (HY8.o.kr HX9.o);have HK9:=hZ (HK8.o.trans HS.o.2);obtain⟨v9,hb9,ht9⟩:=HS.o.1;have HC9:=hZ (qCY b N v9 _ l6 [43] w9 hb9 ht9);have HR9:Hid (Rdr w9 b N l6 (dcC d { y with r:=.slice (some ⟨g8,0,none⟩) acc'.length cap8 })):=hZ ⟨v9,hb9,ht9⟩;clear hb8 ht8 HS HX9 HO8 HU8 HY8 HK8 HR8 hb9 ht9;have HE9:=hZ (qBU f1 l1);rw[HQ.o]at HE9;by_cases hs:isT 2 [43] l6=true
   ·simp only[hs,if_true]at HE9
    unfold qIY at HC9;rw[hs,if_pos rfl]at HC9;clear hs
    go_wp2_with fail
    refine HC9.o.mono ?_;rintro e w10 ⟨rfl,hr10⟩;have HO10:=hZ (hr10.2.own HO9.o (fun k hk he=>by have:=(HO9.o.lt k hk).1;omega));have HU10:=hZ (HU9.o.kp (HR9.o.kpx hr10.2) (by decide));have HY10:=hZ (HY9.o.kr (HR9.o.kpx hr10.2));have HK10:=hZ (HK9.o.trans hr10.2);have HR10:Hid (Rdr w10 b N _ _):=hZ hr10.1;clear hr10 HC9 HR9 HK9 HO9 HU9 HY9 hw9 c f
    go_wp2_with fail
    go_roundw
    case rel=>
     obtain⟨f2,rfl⟩:∃f2,f1=f2+1:=⟨f1-1,by have:=HL.o;have:=HLr.o;omega⟩;exact⟨acc',_,_,f2,_,hZ (by rw[HE.o,HE9.o,qCg,Ha.o]),hZ (by have:=HL.o;have:=HLr.o;have:=Hal.o;simp;omega),HR10,HO10,HU10,HY10,HK10⟩
    case measure=>
     rw[HR10.o.len,HR1.o.len];have:=HLr.o;simp;omega
   ·rw[Bool.not_eq_true]at hs
    simp only[hs]at HE9;unfold qIY at HC9;rw[hs,if_neg (by simp)]at HC9;clear hs
    go_wp2_with fail
    refine HC9.o.mono ?_;rintro e w10 ⟨rfl,hr10⟩;have HO10:=hZ (hr10.2.own HO9.o (fun k hk he=>by have:=(HO9.o.lt k hk).1;omega));have HU10:=hZ (HU9.o.kp (HR9.o.kpx hr10.2) (by decide));have HY10:=hZ (HY9.o.kr (HR9.o.kpx hr10.2));have HK10:=hZ (HK9.o.trans hr10.2);have HR10:Hid (Rdr w10 b N _ _):=hZ hr10.1;clear hr10 HC9 HR9 HK9 HO9 HU9 HY9 hw9 c f
    go_wp2_with fail
    go_end0
    refine .inl ⟨{ d with rows:=acc' },_,_,by unfold qCq;rw[HE.o,HE9.o];rw[Ha.o];rfl,rfl,⟨{ y with r:=.slice (some ⟨g8,0,none⟩) acc'.length cap8 },rfl,HY10.o.t,HY10.o.g,HY10.o.b,HU10.o.rows HO10.o,HY10.o.x⟩,HR10.o,HK10.o⟩
  ·rw[Bool.not_eq_true]at hi
   rw[hi]at HC5;have HQ:Hid (qCu l1=.ok ([⟨t.n,[],t.at_⟩],l4)):=hZ (by unfold qCu;rw[HT1.o];simp only[HT4.o,hi];rfl);have HLr:Hid (l4.length<l1.length):=hZ (by omega);have HP5:Hid (qAA 55 w5 _ [⟨t.n,[],t.at_⟩]):=hZ (qAA.of_own (base:=w4.heap.size) (by simpa using HW5.o));clear hi HU4 HY4 HW5 H45
   go_wp2_with fail
   clear hw5 s2 s3;refine HC5.o.mono ?_;rintro e w' ⟨rfl,rfl⟩;have hac:acc.length<=100000:=by have:=HL.o;omega
   obtain⟨va,hba,hta⟩:=HR5.o;have c:w'.cell? ⟨b,17,none⟩=some v:=hba.cell 17;have f:=hba.frozen 17;have hlw:b<w'.heap.size:=hba.lt;clear hba hta
   go_wp2_with (at_builtin;refine qAB (W0:=w') qGC rfl _ _ rfl [.slice (some ⟨w4.heap.size,0,none⟩) 1 1] 50 _ _ _ rfl rfl rfl (by simp[Value.oneCell']) HO5.o (Below.refl _ _) HK5.o.size (by omega) (by omega) ?_)
   intro g8 cap8 w8 HO8 HB8 HW8 hcap8 hat8;have HX8:=hZ (KpX.own (X:=[50]) HO5.o HW8.o (by simp));have HR8:=hZ (HR5.o.kp HX8.o (by decide) (by decide));have HU8:=hZ ((HU5.o.kp HX8.o (by decide)).snoc (HP5.o.kp HX8.o (by decide)));have HY8:=hZ (HY5.o.kp HX8.o (by decide) (by decide));have HK8:=hZ (HK5.o.behind HB8.o);clear HO5 HR5 HU5 HY5 HK5 HX8 HB8 HW8 hat8 c f;obtain⟨v8,hb8,ht8⟩:=HR8.o;have c:w8.cell? ⟨b,17,none⟩=some v:=hb8.cell 17;have f:=hb8.frozen 17;obtain⟨acc',ha'⟩:∃acc',acc'=acc++[[⟨t.n,[],t.at_⟩]]:=⟨_,rfl⟩;have hal:acc.length+1=acc'.length:=by rw[ha'];simp
   rw[<-ha']at HU8;rw[hal]at HO8 ⊢;have Ha:=hZ ha';have Hal:=hZ hal;clear ha' hal hac;have HS:=hZ (hb8.setOk ht8 15 (.slice (some ⟨g8,0,none⟩) acc'.length cap8));obtain⟨w9,hw9⟩:=eX (w8.setCell ⟨b,17,none⟩ (.slice (some ⟨g8,0,none⟩) acc'.length cap8));rw[show(15+2:Nat)=17 from rfl,hw9]at HS;have HX9:=hZ (hb8.kpx HS.o.2);have HO9:=hZ (HS.o.2.own HO8.o (fun k hk he=>by have:=(HO8.o.lt k hk).1;omega));have HU9:=hZ (HU8.o.kp HX9.o (by decide));have HY9:=hZ (HY8.o.kr HX9.o);have HK9:=hZ (HK8.o.trans HS.o.2);obtain⟨v9,hb9,ht9⟩:=HS.o.1;have HC9:=hZ (qCY b N v9 _ l4 [43] w9 hb9 ht9);have HR9:Hid (Rdr w9 b N l4 (dcC d { y with r:=.slice (some ⟨g8,0,none⟩) acc'.length cap8 })):=hZ ⟨v9,hb9,ht9⟩;clear hb8 ht8 HS HX9 HO8 HU8 HY8 HK8 HR8 hb9 ht9;have HE9:=hZ (qBU f1 l1);rw[HQ.o]at HE9;by_cases hs:isT 2 [43] l4=true
   ·simp only[hs,if_true]at HE9
    unfold qIY at HC9;rw[hs,if_pos rfl]at HC9;clear hs
    go_wp2_with fail
    refine HC9.o.mono ?_;rintro e w10 ⟨rfl,hr10⟩;have HO10:=hZ (hr10.2.own HO9.o (fun k hk he=>by have:=(HO9.o.lt k hk).1;omega));have HU10:=hZ (HU9.o.kp (HR9.o.kpx hr10.2) (by decide));have HY10:=hZ (HY9.o.kr (HR9.o.kpx hr10.2));have HK10:=hZ (HK9.o.trans hr10.2);have HR10:Hid (Rdr w10 b N _ _):=hZ hr10.1;clear hr10 HC9 HR9 HK9 HO9 HU9 HY9 hw9 c f
    go_wp2_with fail
    go_roundw
    case rel=>
     obtain⟨f2,rfl⟩:∃f2,f1=f2+1:=⟨f1-1,by have:=HL.o;have:=HLr.o;omega⟩;exact⟨acc',_,_,f2,_,hZ (by rw[HE.o,HE9.o,qCg,Ha.o]),hZ (by have:=HL.o;have:=HLr.o;have:=Hal.o;simp;omega),HR10,HO10,HU10,HY10,HK10⟩
    case measure=>
     rw[HR10.o.len,HR1.o.len];have:=HLr.o;simp;omega
   ·rw[Bool.not_eq_true]at hs
    simp only[hs]at HE9;unfold qIY at HC9;rw[hs,if_neg (by simp)]at HC9;clear hs
    go_wp2_with fail
    refine HC9.o.mono ?_;rintro e w10 ⟨rfl,hr10⟩;have HO10:=hZ (hr10.2.own HO9.o (fun k hk he=>by have:=(HO9.o.lt k hk).1;omega));have HU10:=hZ (HU9.o.kp (HR9.o.kpx hr10.2) (by decide));have HY10:=hZ (HY9.o.kr (HR9.o.kpx hr10.2));have HK10:=hZ (HK9.o.trans hr10.2);have HR10:Hid (Rdr w10 b N _ _):=hZ hr10.1;clear hr10 HC9 HR9 HK9 HO9 HU9 HY9 hw9 c f
    go_wp2_with fail
    go_end0
    refine .inl ⟨{ d with rows:=acc' },_,_,by unfold qCq;rw[HE.o,HE9.o];rw[Ha.o];rfl,rfl,⟨{ y with r:=.slice (some ⟨g8,0,none⟩) acc'.length cap8 },rfl,HY10.o.t,HY10.o.g,HY10.o.b,HU10.o.rows HO10.o,HY10.o.x⟩,HR10.o,HK10.o⟩
def askW:List Bs:=[qAx,qAR,qBt,qBY,qDj,qAo,qBG,qAy,qBZ,qB4,qCb,qGM,qHP,wOf,qCw,qC0,qBJ,qDi,qHj]
def qLc:List Bs:=[[58],[59],[44],[43]]
def WfT(t:Tok):Prop:=(∀s∈askW,t.text=s->t.kind=0)/\(∀s∈qLc,t.text=s->t.kind=2)
def WfL(T:List Tok):Prop:=∀t∈T,WfT t
theorem qKx{T z:List Tok}{i:Nat}(h:WfL T)(hz:z=T.drop i){s:Bs}(hs:s∈qLc):isX s z=isT 2 s z:=by
 subst hz;cases hd:T.drop i with
 |nil=>rfl
 |cons t r=>
  have ht:t∈T:=List.mem_of_mem_drop (i:=i) (by rw[hd];simp);have h2:=(h t ht).2 s hs;have hne:s.isEmpty=false:=by
   simp[qLc]at hs;rcases hs with rfl|rfl|rfl|rfl<;>rfl
  show(t.text==s)=(t.kind==2 && (s.isEmpty||t.text==s))
  rw[hne];by_cases e:t.text=s
  ·simp[e,h2 e]
  ·simp[e]
theorem qJD{T z:List Tok}{i:Nat}(h:WfL T)(hz:z=T.drop i){s:Bs}(hs:s∈askW):isX s z=isT 0 s z:=by
 subst hz;cases hd:T.drop i with
 |nil=>rfl
 |cons t r=>
  have ht:t∈T:=List.mem_of_mem_drop (i:=i) (by rw[hd];simp);have h2:=(h t ht).1 s hs;have hne:s.isEmpty=false:=by
   have:∀s∈askW,s.isEmpty=false:=by decide +kernel
   exact this s hs
  show(t.text==s)=(t.kind==0 && (s.isEmpty||t.text==s))
  rw[hne];by_cases e:t.text=s
  ·simp[e,h2 e]
  ·simp[e]
theorem QS.sym{w:World}{b:Nat}{s:ByteArray}{T z:List Tok}{bad:Bool}(h:QS w b s T z bad)(hw:WfL T){x:Bs}(hx:x∈qLc):isX x z=isT 2 x z:=by
 obtain⟨v,i, -, -, -,hz,-⟩:=h;exact qKx hw hz hx
theorem QS.word{w:World}{b:Nat}{s:ByteArray}{T z:List Tok}{bad:Bool}(h:QS w b s T z bad)(hw:WfL T){x:Bs}(hx:x∈askW):isX x z=isT 0 x z:=by
 obtain⟨v,i, -, -, -,hz,-⟩:=h;exact qJD hw hz hx
def qM(w:World)(b:Nat)(ag:Value):Nat:=(match w.cell? ⟨b,1,none⟩,w.cell? ⟨b,2,none⟩with|some (.slice _ n _),some (.int _ i)=>2*(n-i.toNat)|_,_=>0)+(match ag,w.cell? ⟨b,3,none⟩with|.bool true,some (.bool false)=>1|_,_=>0)
theorem QS.m{w:World}{b:Nat}{s:ByteArray}{T z:List Tok}{bad:Bool}(h:QS w b s T z bad)(ag:Bool):qM w b (.bool ag)=2*z.length+(if ag && !bad then 1 else 0):=by
 obtain⟨v,i,a,cap,hb,ht,rfl,hi,rfl,hT⟩:=h.at_;have c1:w.cell? ⟨b,1,none⟩=some (.slice a T.length cap):=hb.cell 1;have c2:w.cell? ⟨b,2,none⟩=some (.int .i64 i):=hb.cell 2;have c3:w.cell? ⟨b,3,none⟩=some (.bool bad):=hb.cell 3;unfold qM;rw[c1,c2,c3];cases ag<;>cases bad<;>simp
def LL(bad:Bool)(z:List Tok)(acc:List Pr)(again:Bool)(z1:List Tok)(bd:Bool):Prop:=
 if bd then (bad=true/\z1=z)\/(bad=false/\qAw z=.error z1)else bad=false/\(if again then qAw z=qFF acc (qAw z1)else qAw z=.ok (acc,z1))
theorem qDO:qD4 Tryz.prog 31 96 3 32:=qD4.mk (z:=.agg #[.int .i64 0,.string ⟨#[]⟩,.int .i64 0]) Tryz.underlying31 (by kernel_rfl) rfl (by decide)
theorem qJi(z:List Tok):qJX z=match qAL 0 [] z with|.error r=> .error r|.ok (t,r)=> .ok ((t.text,t.at_),r):=rfl
theorem qGX{k:Int}{s:Bs}{l r:List Tok}(h:qAL k s l=.error r):r=l:=by
 cases l with
 |nil=>cases h;rfl
 |cons t l=>
  simp only[qAL]at h
  split at h
  ·cases h
  ·cases h;rfl
theorem qIs{z1 z2 z3:List Tok}{u2:Option Int}{u3:Option (Bs×Int)}{bd2 bd3:Bool}(h2:QR qAP false z1 u2 bd2 z2)(h3:QR qJX bd2 z2 u3 bd3 z3):
 z3.length<=z1.length/\((bd3=true/\qAw z1=.error z3)\/(bd3=false/\∃n x a,u2=some n/\u3=some (x,a)/\z3.length<z1.length/\qAw z1=if isT 2 [44] z3 then qFF [⟨n,x,a⟩] (qAw (z3.drop 1))else .ok ([⟨n,x,a⟩],z3))):=by
 have he:=qD5 z1;unfold QR at h2;simp only[Bool.false_eq_true,if_false]at h2;cases e2:qAP z1 with
 |error r=>
  rw[e2]at h2 he;obtain⟨rfl,rfl,rfl⟩:=h2;unfold QR at h3;simp only[if_true]at h3;obtain⟨rfl,rfl,rfl⟩:=h3;refine⟨?_,.inl ⟨rfl,he⟩⟩;unfold qAP at e2;cases e4:qAL 1 [] z1 with
  |error q=>rw[e4]at e2;cases e2;rw[qGX e4];exact Nat.le_refl _
  |ok y=>rw[e4]at e2;cases e2
 |ok y=>
  obtain⟨n,r⟩:=y;rw[e2]at h2 he;obtain⟨rfl,rfl,rfl⟩:=h2;have l2:=qBb e2;unfold QR at h3;simp only[Bool.false_eq_true,if_false]at h3;simp only[]at he;unfold qJX at h3;cases e3:qAL 0 [] z2 with
  |error q=>
   rw[e3]at h3 he;obtain⟨rfl,rfl,rfl⟩:=h3;exact⟨by rw[qGX e3];omega,.inl ⟨rfl,he⟩⟩
  |ok y=>
   obtain⟨t,q⟩:=y;rw[e3]at h3 he;obtain⟨rfl,rfl,rfl⟩:=h3;have l3:=qAv e3;exact⟨by omega,.inr ⟨rfl,n,t.text,t.at_,rfl,rfl,by omega,he⟩⟩
def qLH(bad:Bool)(w:World)(v:Value)(u:Option (List Pr)):Prop:=∃g,qAA 96 w v g/\(∀x,u=some x->g=x)/\g.length<=1000000/\(bad=false->g≠[])
def qJU{α:Type}(b:Nat)(s:ByteArray)(T:List Tok)(p:List Tok->Rd α)(bad:Bool)(z:List Tok)(w:World)(V:World->Ending->Option α->Prop)(e:Ending)(w':World):Prop:=
 ∃u z' bad',V w' e u/\QR p bad z u bad' z'/\QOk w w' b s T z' bad'
def LV(bad:Bool)(w:World)(e:Ending)(u:Option (List Pr)):Prop:=∃v,e=.returned v/\qLH bad w v u
theorem QS.only_own{w w':World}{b:Nat}{s:ByteArray}{T z:List Tok}{bad:Bool}(h:QS w b s T z bad){base k n:Nat}{e:TypeId}{v:Value}{xs:List Value}(ho:w.ownsRow base e k v n xs)(hw:qAf (fun c=>v.ownBlock=some c) w w')(h1:e≠78)(h2:e≠80):QS w' b s T z bad:=
 h.kp (KpX.own (X:=[e]) ho hw (by simp)) (by simp;exact fun h=>h1 h.symm) (by simp;exact fun h=>h2 h.symm)
theorem qCy(b:Nat)(s:ByteArray)(T z:List Tok)(bad:Bool)(w:World)(hw:WfL T)(h:QS w b s T z bad):
 Calls Tryz.prog 97 #[.pointer (some ⟨b,0,none⟩)] w (qJU b s T qAw bad z w (LV bad)):=by
 have HS:=hZ h;have hlt:=h.lt;have HW:=hZ hw;have Hz:=hZ h.len;clear h hw
 go_enter Tryz.func97,Tryz.ntmps97
 go_wp2_with fail
 go_loopw [3,4] (fun v ag wr=>∃(acc:List Pr) (again:Bool) (z1:List Tok) (bd:Bool),ag=.bool again/\Hid (LL bad z acc again z1 bd)/\Hid (acc.length+z1.length<=100001+(if again then 0 else 1))/\Hid (QS wr b s T z1 bd)/\Hid (wr.ownsRow w.heap.size 96 3 v acc.length (acc.flatMap prC))/\Hid (qAf (fun k=>k=b) w wr)/\Hid (acc=[]->again=true/\bd=bad)) (fun _ ag wr=>qM wr b ag)
 case atStart=>
  refine⟨[],true,z,bad,rfl,hZ ?_,hZ (by have:=Hz.o;simp;omega),HS,hZ (World.ownsRow_nil _ _ _ _),hZ (qAf.refl _ _),hZ (fun _=>⟨rfl,rfl⟩)⟩;unfold LL;cases bad with
  |true=>exact .inl ⟨rfl,rfl⟩
  |false=>exact⟨rfl,by simp[qDp]⟩
 case round=>
  obtain⟨acc,again,z1,bd,rfl,HE,HL,HS1,HO,HK,HN⟩:=hrel;clear HS;obtain⟨v1,i1,a1,cp1,hb1,ht1,hv1, -, -,-⟩:=HS1.o.at_;have c3:wr.cell? ⟨b,3,none⟩=some (.bool bd):=hb1.cell 3;clear hb1 ht1;by_cases hgo:again=true/\bd=false;rotate_left
  ·have hg:(again && !bd)=false:=by cases again<;>cases bd<;>simp at hgo ⊢
   have HG:=hZ hg;clear hgo hg;cases again with
   |false=>
    go_wp2_with fail
    go_ret;refine⟨(if bd then none else some acc),z1,bd,⟨_,rfl,acc,qAA.of_own HO.o,by intro x hx;cases bd<;>simp at hx;exact hx,by have:=HL.o;simp at this;omega,fun hb h0=>by have:=(HN.o h0).1;cases this⟩,?_,HS1.o,HK.o⟩;have h9:=HE.o;unfold LL at h9;cases bd with
    |true=>
     simp only[if_true]at h9 ⊢;rcases h9 with ⟨rfl,rfl⟩|⟨rfl,h9⟩
     ·exact QR.bad
     ·exact QR.err h9
    |false=>
     simp at h9;obtain⟨rfl,h9⟩:=h9;exact QR.ok h9
   |true=>
    have hbd:bd=true:=by have:=HG.o;simpa using this
    subst hbd
    go_wp2_with fail
    go_ret;refine⟨none,z1,true,⟨_,rfl,acc,qAA.of_own HO.o,nofun,by have:=HL.o;simp at this;omega,fun hb h0=>by have:=(HN.o h0).2;rw[hb]at this;cases this⟩,?_,HS1.o,HK.o⟩;have h9:=HE.o;unfold LL at h9;simp only[if_true]at h9;rcases h9 with ⟨rfl,rfl⟩|⟨rfl,h9⟩
    ·exact QR.bad
    ·exact QR.err h9
  obtain⟨rfl,rfl⟩:=hgo;have HC:=hZ (qAQ b s T z1 false wr HS1.o)
  go_wp2_with fail
  clear c3;refine HC.o.mono ?_;rintro e w2 ⟨u2,z2,bd2,rfl,hq2,hr2⟩;have HQ2:=hZ hq2;have HO2:=hZ (hr2.2.own HO.o (fun k hk he=>by have:=(HO.o.lt k hk).1;omega));have HK2:=hZ (HK.o.trans hr2.2);have HS2:=hZ hr2.1;have HC2:=hZ (qFQ b s T z2 bd2 w2 hr2.1);clear hq2 hr2 HO HK HC;unfold qHA
  go_wp2_with fail
  refine HC2.o.mono ?_;rintro e w3 ⟨u3,z3,bd3,rfl,hq3,hr3⟩;have HQ3:=hZ hq3;have HO3:=hZ (hr3.2.own HO2.o (fun k hk he=>by have:=(HO2.o.lt k hk).1;omega));have HK3:=hZ (HK2.o.trans hr3.2);have HS3:=hZ hr3.1;clear hq3 hr3 HO2 HK2 HS2 HC2;unfold qLp;obtain⟨n,hn⟩:=eX (u2.getD 0);obtain⟨x,hx⟩:=eX ((u3.map (·.1)).getD []);obtain⟨a,ha⟩:=eX ((u3.map (·.2)).getD 0);rw[hn,hx,ha];have Hn:=hZ hn;have Hx:=hZ hx;have Ha:=hZ ha;clear hn hx ha;have hac:acc.length<=100001:=by have:=HL.o;simp at this;omega
  go_wp2_with (at_builtin;refine qAB (W0:=w3) qDO rfl _ _ rfl (prC ⟨n,x,a⟩) 96 _ _ _ rfl rfl rfl (by simp[prC,Value.oneCell']) HO3.o (Below.refl _ _) HK3.o.size (by omega) (by omega) ?_)
  intro g5 cap5 w5 HO5 HB5 HW5 hcap5 hat5;have HS5:=hZ (HS3.o.only_own HO3.o HW5.o (by decide) (by decide));have HK5:=hZ (HK3.o.behind HB5.o);have HC5:=hZ (qC8 b s T z3 bd3 [44] w5 HS5.o);have Hsy:=hZ (HS5.o.sym HW.o (x:=[44]) (by decide));clear HO3 HS3 HK3 HB5 HW5 hat5;have hal:acc.length+1=(acc++[(⟨n,x,a⟩:Pr)]).length:=by simp
  have hfl:acc.flatMap prC++prC ⟨n,x,a⟩=(acc++[(⟨n,x,a⟩:Pr)]).flatMap prC:=by simp
  rw[hal,hfl]at HO5;rw[hal];obtain⟨acc',ha'⟩:∃acc',acc++[(⟨n,x,a⟩:Pr)]=acc':=⟨_,rfl⟩;rw[ha']at HO5 ⊢;have Ha':=hZ ha';clear hal hfl ha' hac hcap5;have Hst:=hZ (qIs HQ2.o HQ3.o);have HEp:Hid (bad=false/\qAw z=qFF acc (qAw z1)):=hZ (by have h9:=HE.o;unfold LL at h9;simpa using h9);by_cases hs:(!bd3 && isX [44] z3)=true
  ·rw[hs]at HC5
   have HC6:=hZ (fun w6 (h6:QS w6 b s T z3 bd3)=>qAX b s T z3 bd3 [44] w6 h6);obtain⟨rfl,hix⟩:bd3=false/\isX [44] z3=true:=by simpa using hs
   have Hix:=hZ hix;clear hs hix
   go_wp2_with fail
   refine HC5.o.mono ?_;rintro e w6 ⟨rfl,hB6⟩;have HS6:=hZ (HS5.o.below hB6);have HO6:=hZ ((qAf.of_below (S:=fun _=>False) hB6).own HO5.o (fun _ _ h=>h));have HK6:=hZ (HK5.o.trans (qAf.of_below hB6));clear hB6 HS5 HO5 HK5 HC5
   go_wp2_with fail
   refine(HC6.o w6 HS6.o).mono ?_;rintro e w7 ⟨u7,z7,bd7,rfl,hq7,hr7⟩;have HQ7:=hZ hq7;have HO7:=hZ (hr7.2.own HO6.o (fun k hk he=>by have:=(HO6.o.lt k hk).1;omega));have HK7:=hZ (HK6.o.trans hr7.2);have HS7:=hZ hr7.1;clear hq7 hr7 HO6 HK6 HS6 HC6;have HX7:Hid (bd7=false/\z7=z3.drop 1):=hZ (by
    have h9:=HQ7.o;unfold QR at h9;rw[qEJ,Hix.o]at h9;simp at h9;exact⟨h9.2.1,by rw[h9.2.2];simp⟩)
   go_wp2_with fail
   go_roundw
   case rel=>
    obtain⟨hl3,⟨h9,-⟩|⟨-,n9,x9,a9,e2,e3,hlt3,e4⟩⟩:=Hst.o
    ·cases h9
    obtain⟨rfl,rfl⟩:=HX7.o;have hT2:isT 2 [44] z3=true:=by rw[<-Hsy.o];exact Hix.o
    rw[if_pos hT2]at e4;refine⟨acc',true,_,false,rfl,hZ ?_,hZ (by rw[<-Ha'.o];have:=HL.o;simp at this ⊢;omega),HS7,HO7,HK7,hZ (fun h0=>by rw[<-Ha'.o]at h0;simp at h0)⟩;unfold LL;simp only[Bool.false_eq_true,if_false,if_true];refine⟨HEp.o.1,?_⟩;rw[HEp.o.2,e4,qCg,<-Ha'.o];have en:n=n9:=by rw[<-Hn.o,e2];rfl
    have ex:x=x9:=by rw[<-Hx.o,e3];rfl
    have ea:a=a9:=by rw[<-Ha.o,e3];rfl
    rw[en,ex,ea]
   case measure=>
    obtain⟨hl3,⟨h9,-⟩|⟨-,n9,x9,a9,e2,e3,hlt3,e4⟩⟩:=Hst.o
    ·cases h9
    obtain⟨rfl,rfl⟩:=HX7.o;rw[HS7.o.m true,HS1.o.m true];simp;omega
  ·rw[Bool.not_eq_true]at hs
   rw[hs]at HC5;have Hs:=hZ hs;clear hs
   go_wp2_with fail
   refine HC5.o.mono ?_;rintro e w6 ⟨rfl,hB6⟩;have HS6:=hZ (HS5.o.below hB6);have HO6:=hZ ((qAf.of_below (S:=fun _=>False) hB6).own HO5.o (fun _ _ h=>h));have HK6:=hZ (HK5.o.trans (qAf.of_below hB6));clear hB6 HS5 HO5 HK5 HC5
   go_wp2_with fail
   go_roundw
   case rel=>
    refine⟨acc',false,z3,bd3,rfl,hZ ?_,hZ (by rw[<-Ha'.o];have h8:=HL.o;have:=Hst.o.1;simp at h8 ⊢;omega),HS6,HO6,HK6,hZ (fun h0=>by rw[<-Ha'.o]at h0;simp at h0)⟩;unfold LL;obtain⟨hl3,⟨rfl,h9⟩|⟨rfl,n9,x9,a9,e2,e3,hlt3,e4⟩⟩:=Hst.o
    ·simp only[if_true]
     exact .inr ⟨HEp.o.1,by rw[HEp.o.2,h9];rfl⟩
    ·have h8:=Hs.o
     simp at h8;rw[Hsy.o]at h8;rw[if_neg (by rw[h8];simp)]at e4;simp only[Bool.false_eq_true,if_false];refine⟨HEp.o.1,?_⟩;have en:n=n9:=by rw[<-Hn.o,e2];rfl
     have ex:x=x9:=by rw[<-Hx.o,e3];rfl
     have ea:a=a9:=by rw[<-Ha.o,e3];rfl
     rw[HEp.o.2,e4,<-Ha'.o,en,ex,ea];rfl
   case measure=>
    rw[HS6.o.m false,HS1.o.m true];have:=Hst.o.1;simp;omega
def qB2(w:World)(v:Value)(l:List Bs):Prop:=TSl 9 1 (fun _ x cs=>cs=[.string ⟨x.toArray⟩]) w v l
theorem qB2.kp{X:List TypeId}{w w':World}{v:Value}{l:List Bs}(h:qB2 w v l)(hk:KpX X w w')(he:9∉X):qB2 w' v l:=TSl.kp h hk he (fun _ _ h=>h)
def qJV(b:Nat)(s:ByteArray)(T:List Tok)(x:Bs)(seen:List Bs)(bad:Bool)(z:List Tok)(w:World)(e:Ending)(w':World):Prop:=
 (e=.returned (.bool true)/\bad=false/\isX x z=true/\x∉seen/\QOk w w' b s T (z.drop 1) false)\/
 (e=.returned (.bool false)/\((QOk w w' b s T z bad/\(bad=true\/isX x z=false))\/(bad=false/\isX x z=true/\x∈seen/\QOk w w' b s T z true)))
theorem qG2(b:Nat)(s:ByteArray)(T z:List Tok)(bad:Bool)(x:Bs)(v:Value)(seen:List Bs)(w:World)(h:QS w b s T z bad)(hv:qB2 w v seen)(hl:seen.length<=1000000):
 Calls Tryz.prog 98 #[.pointer (some ⟨b,0,none⟩),.string ⟨x.toArray⟩,v] w (qJV b s T x seen bad z w):=by
 have HC:=hZ (qC8 b s T z bad x w h);have HS:=hZ h;have HV:=hZ hv;obtain⟨a,cap,rfl,hc1,hc2⟩:=TSl.form hv;clear h hv;by_cases hi:(!bad && isX x z)=true;rotate_left
 ·rw[Bool.not_eq_true]at hi
  rw[hi]at HC;have Hi:=hZ hi;clear hi
  go_enter Tryz.func98,Tryz.ntmps98
  go_wp2_with fail
  refine HC.o.mono ?_;rintro e w1 ⟨rfl,hB1⟩;have HB1:=hZ hB1;clear hB1
  go_wp2_with fail
  go_ret;refine .inr ⟨rfl,.inl ⟨(HS.o.below HB1.o).ok.under HB1.o,?_⟩⟩;have:=Hi.o;cases bad
  ·exact .inr (by simpa using this)
  ·exact .inl rfl
 rw[hi]at HC;obtain⟨rfl,hix⟩:bad=false/\isX x z=true:=by simpa using hi
 have Hix:=hZ hix;clear hi hix
 go_enter Tryz.func98,Tryz.ntmps98
 go_wp2_with fail
 refine HC.o.mono ?_;rintro e w1 ⟨rfl,hB1⟩;have HS1:=hZ (HS.o.below hB1);have HV1:=hZ (HV.o.kp (KpX.of_below (X:=[]) hB1) (by simp));have HB1:=hZ hB1;clear hB1 HC HS HV
 go_wp2_with fail
 go_loopw [7] (fun i wr=>∃k:Nat,k<=seen.length/\i=.int .i64 k/\wr=w1/\Hid (∀y∈seen.take k,y≠x)) (fun i _=>seen.length-(intOf i).toNat)
 case atStart=>exact⟨0,by omega,rfl,rfl,hZ (by simp)⟩
 case round=>
  obtain⟨k,hk,rfl,rfl,HN⟩:=hrel;by_cases hlt:k<seen.length
  ·obtain⟨g,off,cp,es,hv,g1,g2,g3,rfl, -,hcl⟩:=TSl.at_ HV1.o k hlt
   injection hv with hv _ hv2;subst hv hv2;have c0:=hcl 0 (by omega);rw[Nat.mul_one,Nat.add_zero]at c0;replace c0:wr.cell? ⟨g,off+k,none⟩=some (.string ⟨seen[k].toArray⟩):=c0;have hn0:(0:Int)<=(k:Int):=by omega
   have hn1:(k:Int)<(seen.length:Int):=by omega
   have hmem:seen[k]∈seen:=List.getElem_mem hlt;have htk:seen.take (k+1)=seen.take k++[seen[k]]:=List.take_succ_eq_append_getElem hlt;have Hmem:=hZ hmem;have Htk:=hZ htk;clear hcl hmem htk;obtain⟨y,hy⟩:=eX (seen[k]);rw[hy]at c0 Hmem Htk;clear hy;by_cases hyx:y=x
   ·subst hyx
    have hb:(y==y)=true:=by simp
    obtain⟨v9,i9,hq,-⟩:=HS1.o;have c3:wr.cell? ⟨b,3,none⟩=some (.bool false):=hq.cell 3;have f3:=hq.frozen 3;clear hq
    go_wp2_with fail
    go_ret;exact .inr ⟨rfl,.inr ⟨rfl,Hix.o,Hmem.o,HS1.o.setBad.under HB1.o⟩⟩
   ·have hb:(y==x)=false:=by simpa using hyx
    have Hyx:=hZ hyx;clear hyx
    go_wp2_with fail
    go_roundw
    case rel=>
     refine⟨k+1,by omega,by go_num,trivial,hZ (fun q hq=> ?_)⟩;rw[Htk.o]at hq;rcases List.mem_append.1 hq with hq|hq
     ·exact HN.o q hq
     ·rw[List.mem_singleton.1 hq];exact Hyx.o
    case measure=>simp[intOf];omega
  ·have HN2:Hid (x∉seen):=hZ (fun hm=>by
    have:=HN.o x (by rw[List.take_of_length_le (by omega)];exact hm);exact this rfl)
   have hn1:¬(k:Int)<(seen.length:Int):=by omega
   have HC2:=hZ (qAX b s T z false x wr HS1.o);clear HN
   go_wp2_with fail
   refine HC2.o.mono ?_;rintro e w7 ⟨u7,z7,bd7,rfl,hq7,hr7⟩;have HX7:Hid (bd7=false/\z7=z.drop 1):=hZ (by
    unfold QR at hq7;rw[qEJ,Hix.o]at hq7;simp at hq7;exact⟨hq7.2.1,by rw[hq7.2.2];simp⟩)
   have HR7:=hZ hr7;clear hq7 hr7 HC2
   go_wp2_with fail
   go_ret;obtain⟨rfl,rfl⟩:=HX7.o;exact .inl ⟨rfl,rfl,Hix.o,HN2.o,HR7.o.under HB1.o⟩
abbrev PX:List TypeId:=[91,5]
def qEO(B:Nat)(w:World)(b:Nat)(p:Value)(t:Bs)(line:Bool):Prop:=
 B<=b/\∃v,w.heap[b]? =some (.cells #[p,v,.bool line] 91 (0,0))/\w.ownsRow B 5 1 v t.length (Lib.byteCells t)
def PSt(B:Nat)(w:World)(b:Nat)(t:Bs)(line:Bool):Prop:=qEO B w b (.pointer none) t line\/qEO B w b (.pointer (some ⟨b,0,none⟩)) t line
def PKp(B:Nat)(w w':World):Prop:=Below B w w'/\KpX PX w w'
theorem PKp.refl(B:Nat)(w:World):PKp B w w:=⟨Below.refl _ _,KpX.refl _ _⟩
theorem PKp.trans{B:Nat}{w w1 w2:World}(h:PKp B w w1)(h':PKp B w1 w2):PKp B w w2:=⟨h.1.trans h'.1,h.2.trans h'.2⟩
theorem PKp.behind{B:Nat}{w w1:World}(hB:B<=w.heap.size)(h:Below w.heap.size w w1):PKp B w w1:=⟨h.mono hB,KpX.of_below h⟩
theorem qEO.lt{B b:Nat}{w:World}{p:Value}{t:Bs}{line:Bool}(h:qEO B w b p t line):b<w.heap.size:=by
 obtain⟨_,v,h1,_⟩:=h;exact qAn h1
theorem PSt.lt{B b:Nat}{w:World}{t:Bs}{line:Bool}(h:PSt B w b t line):b<w.heap.size:=h.elim qEO.lt qEO.lt
theorem qEO.kp{B b:Nat}{X:List TypeId}{w w':World}{p:Value}{t:Bs}{line:Bool}(h:qEO B w b p t line)(hk:KpX X w w')(h1:91∉X)(h2:5∉X):qEO B w' b p t line:=by
 obtain⟨hB,v,hb,ho⟩:=h;refine⟨hB,v,hk _ _ _ h1 hb,ho.1,?_⟩;rcases ho.2 with h0|⟨g,cap,cur,hv,hg,hh,hr⟩
 ·exact .inl h0
 ·exact .inr ⟨g,cap,cur,hv,hg,hk _ _ _ h2 hh,hr⟩
theorem PSt.kp{B b:Nat}{X:List TypeId}{w w':World}{t:Bs}{line:Bool}(h:PSt B w b t line)(hk:KpX X w w')(h1:91∉X)(h2:5∉X):PSt B w' b t line:=
 h.elim (fun h=> .inl (h.kp hk h1 h2)) (fun h=> .inr (h.kp hk h1 h2))
theorem PSt.below{B b:Nat}{w w':World}{t:Bs}{line:Bool}(h:PSt B w b t line)(hk:Below w.heap.size w w'):PSt B w' b t line:=h.kp (KpX.of_below (X:=[]) hk) (by simp) (by simp)
theorem qEO.any{B b:Nat}{w:World}{p:Value}{t:Bs}{line:Bool}(h:qEO B w b p t line)(v:Value)(hv:w.heap[b]? =some (.cells #[p,v,.bool line] 91 (0,0))):w.ownsRow B 5 1 v t.length (Lib.byteCells t):=by
 obtain⟨_,v',h1,h2⟩:=h;have:v'=v:=by
  rw[h1]at hv;injection hv with hv;injection hv with hv;simpa using hv
 rw[<-this];exact h2
theorem qLw:(Tryz.prog.info? 89).map (·.size)=some 2:=by kernel_rfl
theorem qLa{B b:Nat}{w:World}{p:Value}{t:Bs}{line:Bool}(h:qEO B w b p t line):w.shape? b=some (91,3):=by
 obtain⟨_,v,h1,_⟩:=h;simp[World.shape?,h1]
theorem qLx:liesAt Tryz.prog Tryz.prog.depth 91 (3/Tryz.prog.cellsOf 91) 0 89 1=true:=by kernel_rfl
theorem qFS(B b:Nat)(t:Bs)(line:Bool)(w:World)(h:PSt B w b t line):
 Calls Tryz.prog 94 #[.pointer (some ⟨b,0,none⟩)] w fun e w'=>e=.returned (.tuple #[])/\qEO B w' b (.pointer (some ⟨b,0,none⟩)) t line/\PKp B w w':=by
 obtain⟨j,hj,hjs⟩:=Option.map_eq_some_iff.1 qLw;rcases h with h|h
 ·have H:=hZ h
  obtain⟨hB,v,hb,ho⟩:=h;have c0:w.cell? ⟨b,0,none⟩=some (.pointer none):=by rw[Lib.cell_of_heap hb];rfl
  have f0:w.frozen? ⟨b,0,none⟩=false:=Lib.frozen_of_heap hb 0;have hsh:=qLa H.o;have Hb:=hZ hb;have Ho:=hZ ho;clear hb ho
  go_enter Tryz.func94,Tryz.ntmps94
  go_wp2
  rw[Lib.run_to_unsafe w ⟨b,0,none⟩ Tryz.underlying86 Tryz.underlying142 hj (by rw[hjs];decide) hsh (show(0:Nat)<3 by decide)];simp only[Result.andThen];rw[Oper.upon_value]
  go_wp2
  rw[run_callFunc_extern Tryz.func100 (by kernel_rfl) (by kernel_rfl) (by kernel_rfl) (e:=Extern.AbiNoEscape.same) (by kernel_rfl)];rw[Lib.run_noEscape];simp only[Result.andThen];rw[Oper.upon_value]
  go_wp2
  rw[Lib.run_from_unsafe w ⟨b,0,none⟩ Tryz.underlying142 Tryz.underlying86 hj hsh qLx];simp only[Result.andThen];rw[Oper.upon_value]
  go_wp2
  go_end0
  have hb':(w.setCell ⟨b,0,none⟩ (.pointer (some ⟨b,0,none⟩))).heap[b]? =some (.cells #[.pointer (some ⟨b,0,none⟩),v,.bool line] 91 (0,0)):=by
   simp[World.setCell,Array.getElem?_modify,Hb.o]
  have hk:KpX [91] w (w.setCell ⟨b,0,none⟩ (.pointer (some ⟨b,0,none⟩))):=KpX.set Hb.o (by simp) _;refine⟨rfl,⟨hB,v,hb',qBC Ho.o hk (by decide)⟩,(Below.refl B w).setCell (p:=⟨b,0,none⟩) hB _,hk.mono (by simp)⟩
 ·have H:=hZ h
  obtain⟨hB,v,hb,ho⟩:=h;have c0:w.cell? ⟨b,0,none⟩=some (.pointer (some ⟨b,0,none⟩)):=by rw[Lib.cell_of_heap hb];rfl
  clear hb ho
  go_enter Tryz.func94,Tryz.ntmps94
  go_wp2
  rw[Lib.run_neq_ptr_same w _ Tryz.underlying86 hj]
  go_wp2
  go_end0
  exact⟨rfl,H.o,PKp.refl _ _⟩
theorem qK2:(Tryz.prog.info? 5).map (fun i=>(i.zero,i.size,i.bytes))=some (some (.int .u8 0),1,1):=by kernel_rfl
theorem qEO.put{B b:Nat}{w:World}{p v v':Value}{t:Bs}{line:Bool}(hB:B<=b)(hb:w.heap[b]? =some (.cells #[p,v,.bool line] 91 (0,0)))(ho:w.ownsRow B 5 1 v' t.length (Lib.byteCells t)):
 qEO B (w.setCell ⟨b,1,none⟩ v') b p t line/\KpX [91] w (w.setCell ⟨b,1,none⟩ v'):=by
 have hk:KpX [91] w (w.setCell ⟨b,1,none⟩ v'):=KpX.set hb (by simp) _;exact⟨⟨hB,v',by simp[World.setCell,Array.getElem?_modify,hb],qBC ho hk (by decide)⟩,hk⟩
theorem qFT(B b:Nat)(t:Bs)(line:Bool)(c:UInt8)(w:World)(h:PSt B w b t line)(hlen:t.length<=100000000)(hBw:B<=w.heap.size):
 Calls Tryz.prog 79 #[.pointer (some ⟨b,0,none⟩),.int .u8 c.toNat] w fun e w'=>e=.returned .nilIface/\PSt B w' b (t++[c]) line/\PKp B w w':=by
 obtain⟨i0,hi,hz0,hz1,hz2⟩:=info_parts qK2;have H:=hZ h;clear h
 go_enter Tryz.func79,Tryz.ntmps79
 go_wp2_with fail
 refine(qFS B b t line w H.o).mono ?_;rintro e w1 ⟨rfl,⟨hB,v,hbk,hown⟩,hk1⟩;have c0:w1.cell? ⟨b,0,none⟩=some (.pointer (some ⟨b,0,none⟩)):=by rw[Lib.cell_of_heap hbk];rfl
 have c1:w1.cell? ⟨b,1,none⟩=some v:=by rw[Lib.cell_of_heap hbk];rfl
 have hlt:=qAn hbk;have Hbk:=hZ hbk;have Hown:=hZ hown;have Hk1:=hZ hk1;have z1:=hk1.1.size;have hc0:(0:Int)<=c.toNat:=by omega
 clear hbk hown hk1
 go_wp2_with (at_builtin;refine wpList_append_own _ rfl _ _ 87 rfl B 5 i0 (.int .u8 0) 1 1 Tryz.underlying87 hi hz0 hz1 hz2 rfl (by decide) _ _ _ rfl (Hown.o.alloc _) ⟨w1.heap.size,0,none⟩ 1 1 [.int .u8 c.toNat] rfl rfl ?c1 ?c2 ?c3 ?c4 ?c5 ?_)
 case c1=>
  intro j u hj
  match j,hj with
  |0,hj=>simp at hj;subst hj;simp[Addr.add]
 case c2=>intro u hu;simp at hu;subst hu;rfl
 case c3=>unfold maxLen;omega
 case c4=>omega
 case c5=>simp;omega
 intro v' w2 hown' hgrow _;have hkg:KpX [5] (w1.alloc (.cells #[.int .u8 c.toNat] 5)) w2:=KpX.grown (Hown.o.alloc _) hgrow (by simp);have hkk:KpX PX w w2:=(Hk1.o.2.trans (KpX.of_below (qAa w1 _))).trans (hkg.mono (by simp));have hbk2:w2.heap[b]? =some (.cells #[.pointer (some ⟨b,0,none⟩),v,.bool line] 91 (0,0)):=hkg _ _ _ (by decide) ((qAa w1 _).block b hlt|>.trans Hbk.o);obtain⟨g2,cap2,hv2,_⟩:=hown'.form (by omega);subst hv2;have d0:w2.cell? ⟨b,0,none⟩=some (.pointer (some ⟨b,0,none⟩)):=by rw[Lib.cell_of_heap hbk2];rfl
 have d1:w2.cell? ⟨b,1,none⟩=some v:=by rw[Lib.cell_of_heap hbk2];rfl
 have f1:w2.frozen? ⟨b,1,none⟩=false:=Lib.frozen_of_heap hbk2 1;have Hown':=hZ hown';have HBl:Hid (Below B w w2):=hZ ((Hk1.o.1.alloc (by omega) _).grown hgrow (by simp;omega) (fun r e=>(Hown.o.lt r e).1));have Hbk2:=hZ hbk2;have Hkk:=hZ hkk;clear hown' hgrow hbk2 hkk hkg
 go_wp2
 go_ret;obtain⟨h1,h2⟩:=qEO.put (t:=t++[c]) hB Hbk2.o (by simpa[Lib.byteCells]using Hown'.o);exact⟨rfl,.inr h1,HBl.o.setCell (p:=⟨b,1,none⟩) hB _,Hkk.o.trans (h2.mono (by simp))⟩
theorem qEi(B b:Nat)(t:Bs)(line:Bool)(s:Bs)(w:World)(h:PSt B w b t line)(hlen:t.length+s.length<=100000000)(hBw:B<=w.heap.size):
 Calls Tryz.prog 90 #[.pointer (some ⟨b,0,none⟩),.string ⟨s.toArray⟩] w fun e w'=>(∃v,e=.returned v)/\PSt B w' b (t++s) line/\PKp B w w':=by
 obtain⟨i0,hi,hz0,hz1,hz2⟩:=info_parts qK2;have H:=hZ h;clear h;have hsz:(⟨s.toArray⟩:ByteArray).size=s.length:=by show s.toArray.size=_;simp
 go_enter Tryz.func90,Tryz.ntmps90
 go_wp2_with fail
 refine(qFS B b t line w H.o).mono ?_;rintro e w1 ⟨rfl,⟨hB,v,hbk,hown⟩,hk1⟩;have c0:w1.cell? ⟨b,0,none⟩=some (.pointer (some ⟨b,0,none⟩)):=by rw[Lib.cell_of_heap hbk];rfl
 have c1:w1.cell? ⟨b,1,none⟩=some v:=by rw[Lib.cell_of_heap hbk];rfl
 have hlt:=qAn hbk;have Hbk:=hZ hbk;have Hown:=hZ hown;have Hk1:=hZ hk1;have z1:=hk1.1.size;clear hbk hown hk1
 go_wp2_with (at_builtin;refine Lib.wpList_append_own_string _ rfl _ _ 87 9 rfl B 5 i0 Tryz.underlying87 Tryz.underlying9 hi hz0 hz1 hz2 _ _ _ rfl Hown.o ⟨s.toArray⟩ rfl ?c3 ?c4 ?c5 ?_)
 case c3=>unfold maxLen;omega
 case c4=>omega
 case c5=>omega
 intro v' w2 hown' hgrow _;have hkg:KpX [5] w1 w2:=KpX.grown Hown.o hgrow (by simp);have hkk:KpX PX w w2:=Hk1.o.2.trans (hkg.mono (by simp));have hbk2:w2.heap[b]? =some (.cells #[.pointer (some ⟨b,0,none⟩),v,.bool line] 91 (0,0)):=hkg _ _ _ (by decide) Hbk.o;have d0:w2.cell? ⟨b,0,none⟩=some (.pointer (some ⟨b,0,none⟩)):=by rw[Lib.cell_of_heap hbk2];rfl
 have d1:w2.cell? ⟨b,1,none⟩=some v:=by rw[Lib.cell_of_heap hbk2];rfl
 have f1:w2.frozen? ⟨b,1,none⟩=false:=Lib.frozen_of_heap hbk2 1;obtain⟨ao,n',cap,rfl⟩:∃ao n' cap,v'=.slice ao n' cap:=by
  rcases hown'.2 with ⟨hv,_⟩|⟨g,cap,cur,hv,_⟩
  ·exact⟨_,_,_,hv⟩
  ·exact⟨_,_,_,hv⟩
 have Hown':=hZ hown';have HBl:Hid (Below B w w2):=hZ (Hk1.o.1.grown hgrow (by omega) (fun r e=>(Hown.o.lt r e).1));have Hbk2:=hZ hbk2;have Hkk:=hZ hkk;clear hown' hgrow hbk2 hkk hkg
 go_wp2
 go_ret2
 have e1:Lib.byteCells (t++s)=Lib.byteCells t++Lib.strCells ⟨s.toArray⟩:=by simp[Lib.byteCells,Lib.strCells]
 have e2:(t++s).length=t.length+(⟨s.toArray⟩:ByteArray).size:=by rw[hsz];simp
 obtain⟨h1,h2⟩:=qEO.put (t:=t++s) hB Hbk2.o (by rw[e1,e2];exact Hown'.o);exact⟨⟨_,rfl⟩,.inr h1,HBl.o.setCell (p:=⟨b,1,none⟩) hB _,Hkk.o.trans (h2.mono (by simp))⟩
theorem qJf(B b:Nat)(t:Bs)(line:Bool)(w:World)(h:PSt B w b t line):
 Calls Tryz.prog 42 #[.pointer (some ⟨b,0,none⟩)] w fun e w'=>e=.returned (.int .i64 t.length)/\w'=w:=by
 obtain⟨p,hB,v,hbk,hown⟩:∃p,qEO B w b p t line:=by
  rcases h with h|h
  ·exact⟨_,h⟩
  ·exact⟨_,h⟩
 obtain⟨ao,cap,rfl⟩:∃ao cap,v=.slice ao t.length cap:=by
  rcases hown.2 with ⟨hv,h0⟩|⟨g,cap,cur,hv,_⟩
  ·exact⟨none,0,by rw[hv,h0]⟩
  ·exact⟨_,_,hv⟩
 have c1:w.cell? ⟨b,1,none⟩=some (.slice ao t.length cap):=by rw[Lib.cell_of_heap hbk];rfl
 clear hbk hown h
 go_enter Tryz.func42,Tryz.ntmps42
 go_wp2
 go_ret;exact⟨rfl,rfl⟩
theorem qKJ:Tryz.prog.cellsOf 5=1:=by kernel_rfl
theorem qId(B b:Nat)(t:Bs)(line:Bool)(w:World)(h:PSt B w b t line)(h0:t≠[]):
 Calls Tryz.prog 43 #[.pointer (some ⟨b,0,none⟩)] w fun e w'=>e=.returned (.string ⟨t.toArray⟩)/\Below B w w':=by
 obtain⟨p,hB,v,hbk,hown⟩:∃p,qEO B w b p t line:=by
  rcases h with h|h
  ·exact⟨_,h⟩
  ·exact⟨_,h⟩
 have hl0:t.length≠0:=by simpa using h0
 obtain⟨g,cap,cur,rfl,hbg,hg,hnc,hcm,hcs,htake⟩:∃g cap cur,v=.slice (some ⟨g,0,none⟩) t.length cap/\B<=g/\w.heap[g]? =some (.cells cur 5 (0,0))/\t.length<=cap/\cap<=maxLen/\cur.size=cap*1/\cur.toList.take (t.length*1)=Lib.byteCells t:=by
  rcases hown.2 with ⟨_,hz⟩|⟨g,cap,cur,hv,r⟩
  ·exact absurd hz hl0
  ·exact⟨g,cap,cur,hv,r⟩
 have c1:w.drew.cell? ⟨b,1,none⟩=some (.slice (some ⟨g,0,none⟩) t.length cap):=by
  have:w.drew.heap[b]? =some (.cells #[p,.slice (some ⟨g,0,none⟩) t.length cap,.bool line] 91 (0,0)):=hbk;rw[Lib.cell_of_heap this];rfl
 have hSD:(Builtin.unsafeSliceData_ #[87] 126 #[.slice (some ⟨g,0,none⟩) t.length cap]).run Tryz.prog w.drew=.ok (.pointer (some ⟨g,0,none⟩)) w.drew:=
  Lib.run_unsafeSliceData_row _ _ _ _ _ _ (by omega)
 have hUS:(Builtin.unsafeString_ #[126,3] 9 #[.pointer (some ⟨g,0,none⟩),.int .i64 t.length]).run Tryz.prog w.drew=.ok (.string ⟨t.toArray⟩) (w.drew.freeze ⟨g,0,none⟩ t.length):=by
  refine Lib.run_unsafeString_row w.drew 126 3 9 5 Tryz.underlying126 qKJ g cur.size (by have hg':w.drew.heap[g]? =some (.cells cur 5 (0,0)):=hg;simp[World.shape?,hg']) t h0 (by omega) (by unfold maxLen at hcm;omega) ?_;intro j x hx;have:=hown.cells (g:=g) rfl j (.int .u8 x.toNat) (by simp[Lib.byteCells,hx]);exact this
 clear hbk hown h htake hg
 go_enter Tryz.func43,Tryz.ntmps43
 go_wp2
 go_region
 all_goals (go_wp2;go_ret;exact⟨rfl,Lib.below_freeze (Below.drew (Below.refl B w)) (p:=⟨g,0,none⟩) hbg _⟩)
theorem PSt.line{B b:Nat}{w:World}{t:Bs}{line:Bool}(h:PSt B w b t line)(l':Bool):PSt B (w.setCell ⟨b,2,none⟩ (.bool l')) b t l'/\PKp B w (w.setCell ⟨b,2,none⟩ (.bool l')):=by
 have key:∀p,qEO B w b p t line->qEO B (w.setCell ⟨b,2,none⟩ (.bool l')) b p t l'/\PKp B w (w.setCell ⟨b,2,none⟩ (.bool l')):=by
  rintro p ⟨hB,v,hb,ho⟩;have hk:KpX [91] w (w.setCell ⟨b,2,none⟩ (.bool l')):=KpX.set hb (by simp) _;exact⟨⟨hB,v,by simp[World.setCell,Array.getElem?_modify,hb],qBC ho hk (by decide)⟩,(Below.refl B w).setCell (p:=⟨b,2,none⟩) hB _,hk.mono (by simp)⟩
 rcases h with h|h
 ·exact⟨.inl (key _ h).1,(key _ h).2⟩
 ·exact⟨.inr (key _ h).1,(key _ h).2⟩
def qLG(k:Int)(r:Bs):Prop:=∀c r',r=c::r'->(k=0->wb c=false)/\(k=1->db c=false)
abbrev K:=Int×Bs×Int
def Tok.key(t:Tok):K:=(t.kind,t.text,t.n)
def Pr.st(p:Pr):Pr:={ p with at_:=0 }
def stL(l:List Pr):List Pr:=l.map Pr.st
def Dc.st(d:Dc):Dc:={ d with at_:=0,take:=stL d.take,give:=stL d.give,back:=stL d.back,rows:=d.rows.map stL }
def qJ9(d:Dc):Prop:=0<=d.bind/\d.bind<=2
theorem qGy{d:Dc}(h:qBh d=true):0<=d.kind/\d.kind<=4:=by
 unfold qBh at h;by_cases h0:d.kind=0
 ·omega
 ·rw[if_neg h0]at h
  by_cases h1:d.kind=1\/d.kind=2
  ·omega
  ·rw[if_neg h1]at h
   by_cases h3:d.kind=3
   ·omega
   ·rw[if_neg h3]at h
    by_cases h4:d.kind=4
    ·omega
    ·rw[if_neg h4]at h;cases h
theorem qKI{d:Dc}(h:qBh d=true):qJ9 d:=by
 unfold qBh at h;unfold qJ9;by_cases h0:d.kind=0
 ·rw[if_pos h0]at h
  simp at h;omega
 ·rw[if_neg h0]at h
  have:qCD d=false:=by
   split at h
   ·simp at h;exact h.1.1
   ·split at h
    ·simp at h;exact h.1.1.1.1.1
    ·split at h
     ·simp at h;exact h.1.1.1.1
     ·cases h
  unfold qCD at this;simp at this;omega
theorem qEy{d:Dc}(h:qHH d=0):qBh d=true/\qFr d=true/\qCj d=true:=by
 unfold qHH at h;cases h1:qBh d<;>cases h2:qFr d<;>cases h3:qCj d<;>simp[h1,h2,h3]at h ⊢
def qDk(l:List (Dc×Nat)):Bs:=(l.map (fun x=>qB0 x.1 x.2)).flatten
end Go.Proofs.YtpmnbcdjoomgcaaGreatDoor
