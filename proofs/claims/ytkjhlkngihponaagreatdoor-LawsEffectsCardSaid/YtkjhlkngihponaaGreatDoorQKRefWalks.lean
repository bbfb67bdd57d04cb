/- Walks of the reference's small functions: class, skip, end, value, Around. -/
import Derived.Test.YtkjhlkngihponaaGreatDoorQKGVal
import Derived.Maps.OwnSet
import Derived.Maps.Views
import Derived.WalkArith
import Derived.Test.YtkjhlkngihponaaGreatDoorQKWDivide
import Derived.RangeFuncNested
import Derived.RangeFuncBound
import Derived.RangeFuncCalls
import Derived.RangeFuncLeaves
import Derived.Shelf.Abstract
import Derived.Shelf.RegionOpen
import Derived.WalkKit
import Derived.OwnWalkIn
import Derived.TacticsInMore
import Derived.LoopNIn
import Derived.LoopIn
import Derived.Test.YtkjhlkngihponaaGreatDoorProg
import Derived.WalkSpells
import Derived.WalkLawsBesides
import Derived.Lib.Hide
set_option linter.unusedVariables false
set_option linter.unusedSimpArgs false
set_option maxHeartbeats 2000000
set_option maxRecDepth 100000
namespace Go.Proofs.YtkjhlkngihponaaGreatDoor
open Go.RowKit
theorem qPS(r:Rul)(p:Pl)(n:Nat)(w:World)(hr:qFf w r p)(hg:qD2 n r):Calls Tryz.prog 71 #[qGu r p] w fun e w'=>e=.returned (.bool true)/\Below w.heap.size w w':=by
 obtain⟨rn,rs,rt,ro,lt,lg,lb⟩:=r;have ht:=hg.take.len;have hgv:=hg.give.len;have hbk:=hg.back.len;have ho1:=hg.of1;have ho2:=hg.of2;have htm:=hg.time;have hsp:=hg.spawn;have hpl:=hg.player;have hhb:=hg.hasBack;have hc1:=hr.t1;have hc2:=hr.g1;have hc3:=hr.b1;simp only[]at ht hgv hbk ho1 ho2 htm hsp hpl hhb hc1 hc2 hc3;unfold qGu;simp only[];clear hsp hpl hhb;have q1:decide ((lt.length:Int)+(lg.length:Int)<=64)=true:=by simp;omega
 have q2:decide ((lt.length:Int)+(lb.length:Int)<=64)=true:=by simp;omega
 go_enter Tryz.func71,Tryz.ntmps71
 go_wp2_with fail
 go_ret;exact⟨rfl,aR⟩
theorem qGC(r:Rul)(p:Pl)(n:Nat)(w:World)(hr:qFf w r p)(hg:qD2 n r):Calls Tryz.prog 93 #[qGu r p] w fun e w'=>e=.returned (.bool true)/\Below w.heap.size w w':=by
 obtain⟨rn,rs,rt,ro,lt,lg,lb⟩:=r;have ht:=hg.take.len;have hgv:=hg.give.len;have hbk:=hg.back.len;have ho1:=hg.of1;have ho2:=hg.of2;have htm:=hg.time;have hsp:=hg.spawn;have hpl:=hg.player;have hhb:=hg.hasBack;have hc1:=hr.t1;have hc2:=hr.g1;have hc3:=hr.b1;simp only[]at ht hgv hbk ho1 ho2 htm hsp hpl hhb hc1 hc2 hc3;unfold qGu;simp only[]
 go_enter Tryz.func93,Tryz.ntmps93
 by_cases hb0:lb=[]
 ·subst hb0
  cases rs with
  |true=>
   obtain⟨h1,h2,h3,h4⟩:=hsp rfl;subst h1 h3 h4
   go_wp2_with fail
   go_ret;exact⟨rfl,aR⟩
  |false=>
   by_cases ht0:lt=[]
   ·have h1:rt=1:=(hpl rfl).resolve_left (fun h=>h ht0)
    subst ht0 h1;clear hsp hpl hhb
    go_wp2_with fail
    go_ret;exact⟨rfl,aR⟩
   ·have h1:0<lt.length:=List.length_pos_iff.2 ht0
    have q1:decide (0<(lt.length:Int))=true:=by simp;omega
    have q2:decide (0<lt.length)=true:=by simp;omega
    clear hsp hpl hhb
    go_wp2_with fail
    go_ret;exact⟨rfl,aR⟩
 ·have h1:0<lb.length:=List.length_pos_iff.2 hb0
  have h2:=hhb hb0;subst h2;have hrs:rs=false:=by
   cases rs with
   |false=>rfl
   |true=>exact absurd (hsp rfl).2.1 hb0
  subst hrs;have q1:decide (0<(lb.length:Int))=true:=by simp;omega
  have q2:decide (0<lb.length)=true:=by simp;omega
  by_cases ht0:lt=[]
  ·have h3:rt=1:=(hpl rfl).resolve_left (fun h=>h ht0)
   subst ht0 h3;clear hsp hpl hhb
   go_wp2_with fail
   go_ret;exact⟨rfl,aR⟩
  ·have h3:0<lt.length:=List.length_pos_iff.2 ht0
   have q3:decide (0<(lt.length:Int))=true:=by simp;omega
   have q4:decide (0<lt.length)=true:=by simp;omega
   clear hsp hpl hhb
   go_wp2_with fail
   go_ret;exact⟨rfl,aR⟩
theorem qFI(r:Rul)(p:Pl)(n:Nat)(w:World)(hr:qFf w r p)(hg:qD2 n r):Calls Tryz.prog 104 #[qGu r p] w fun e w'=>e=.returned (.bool true)/\Below w.heap.size w w':=by
 obtain⟨rn,rs,rt,ro,lt,lg,lb⟩:=r;have ht:=hg.take.len;have hgv:=hg.give.len;have hbk:=hg.back.len;have ho1:=hg.of1;have ho2:=hg.of2;have htm:=hg.time;have hsp:=hg.spawn;have hpl:=hg.player;have hhb:=hg.hasBack;have hc1:=hr.t1;have hc2:=hr.g1;have hc3:=hr.b1;simp only[]at ht hgv hbk ho1 ho2 htm hsp hpl hhb hc1 hc2 hc3;unfold qGu;simp only[];clear hsp hpl hhb;have q1:decide ((rt:Int)<=1000000)=true:=by simp;omega
 have q2:decide (1<=(ro:Int))=true:=by simp;omega
 have q3:decide ((ro:Int)<=1000000)=true:=by simp;omega
 have q4:decide (0<=(rt:Int))=true:=by simp
 go_enter Tryz.func104,Tryz.ntmps104
 go_wp2_with fail
 go_ret;exact⟨rfl,aR⟩
theorem qGI(n:Tx)(w:World):Calls Tryz.prog 91 #[qLN n] w fun e w'=>e=.returned (.bool true)/\Below w.heap.size w w':=by
 unfold qLN
 go_enter Tryz.func91,Tryz.ntmps91
 go_wp2_with fail
 go_ret;exact⟨rfl,aR⟩
theorem qF1(n:Tx)(w:World):Calls Tryz.prog 102 #[qLN n] w fun e w'=>e=.returned (.bool true)/\Below w.heap.size w w':=by
 unfold qLN
 go_enter Tryz.func102,Tryz.ntmps102
 go_wp2_with fail
 go_ret;exact⟨rfl,aR⟩
theorem qGM(a:Amt)(w:World)(h1:1<=a.n)(h2:a.n<=1000):Calls Tryz.prog 101 #[qR0 a] w fun e w'=>e=.returned (.bool true)/\Below w.heap.size w w':=by
 unfold qR0;obtain⟨ai,an⟩:=a;simp only[]at h1 h2 ⊢;have q1:decide (1<=(an:Int))=true:=by simp;omega
 have q2:decide ((an:Int)<=1099511627776)=true:=by simp;omega
 go_enter Tryz.func101,Tryz.ntmps101
 go_wp2_with fail
 go_ret;exact⟨rfl,aR⟩
theorem qDR(v:Value)(l:List Amt)(n K:Nat)(w:World)(h:qAl w v l)(hg:qAM n 1000 K l)(hK:K<=1000):Calls Tryz.prog 99 #[v] w fun e w'=>e=.returned (.bool true)/\Below w.heap.size w w':=by
 have HE:=hZ (qNG v l 101 #[] w h (Nat.le_trans hg.len hK) (fun _ _=>by simp[go_sem]) (fun j hj w' _=>by
  have:=hg.all l[j] (List.getElem_mem hj);simpa using qGM l[j] w' this.2.1 this.2.2))
 obtain⟨a0,c0,rfl, -,-⟩:=h.form;clear h
 go_enter Tryz.func99,Tryz.ntmps99
 go_wp2_with fail
 refine HE.o.mono ?_;rintro e w5 ⟨rfl,hB5⟩;have HB5:=hZ hB5;clear hB5
 go_wp2_with fail
 go_ret;exact⟨rfl,HB5.o⟩
theorem qEC(v:Value)(l:List Amt)(n K:Nat)(b:Nat)(ai:Option Addr)(ci:Nat)(w:World)(h:qAl w v l)(hg:qAM n 1000 K l)(hK:K<=1000)(hc:w.cell? ⟨b,0,none⟩=some (.slice ai n ci))(hb:b<w.heap.size)(hn:n<=1000):
 Calls Tryz.prog 90 #[v,.pointer (some ⟨b,0,none⟩)] w fun e w'=>e=.returned (.bool true)/\Below w.heap.size w w':=by
 have HL:=hZ h;have HC:=hZ hc;have HG:=hZ hg;have hlen:=Nat.le_trans hg.len hK;obtain⟨a0,c0,rfl,h1,h2⟩:=h.form;clear h hc hg
 go_enter Tryz.func90,Tryz.ntmps90
 go_wp2_with fail
 go_loopw [4,9] (fun m i wr=>∃(j:Nat) (z:Int),j<=l.length/\i=.int .i64 j/\m=.int .i64 z/\Hid (∀(h:j<l.length),z<(l[j].item:Int))/\Hid (Below w.heap.size w wr)) (fun _ i _=>l.length-(intOf i).toNat)
 case atStart=>exact⟨0, -1,by omega,rfl,rfl,hZ (fun h=>by omega),hZ (Below.refl _ _)⟩
 case round=>
  obtain⟨j,z,hj,rfl,rfl,HZ,HB⟩:=hrel;by_cases hlt:j<l.length
  ·obtain⟨b2,cap,hv,hb2,c0,c1⟩:=qAl.at_ (HL.o.below HB.o) j hlt
   injection hv with e1 e2 e3;subst e1;clear e2 e3;have hz:=HZ.o hlt;have hi:=(HG.o.all l[j] (List.getElem_mem hlt)).1;have HN:Hid (∀h:j+1<l.length,(l[j].item:Int)<(l[j+1].item:Int)):=hZ (fun h=>by
    have:=List.pairwise_iff_getElem.1 HG.o.sorted j (j+1) hlt h (by omega);omega)
   have hcb:=(HB.o.cell (p:=⟨b,0,none⟩) hb).trans HC.o;have hwr:=HB.o.size;have hbw:b<wr.heap.size:=by omega
   generalize l[j]=x at *;obtain⟨xi,xn⟩:=x;simp only[]at c0 c1 hz hi HN;have q1:decide ((xi:Int)<=z)=false:=by simp;omega
   have q2:decide ((n:Int)<=(xi:Int))=false:=by simp;omega
   have q3:decide (n<=xi)=false:=by simp;omega
   go_wp2_with fail
   go_roundw
   case rel=>exact⟨j+1,xi,by omega,by go_num,rfl,HN,hZ (HB.o.alloc HB.o.size _)⟩
   case measure=>simp[intOf];omega
  ·go_wp2_with fail
   go_ret;exact⟨rfl,HB.o⟩
open Go.RowKit Go.Maps Go.WideMaps
theorem qBr{P:Program}(t k e:TypeId)(kd:IntKind)(n:Int)(ht:P.underlying t=some (.map k e))(w:World):
 (Instr.makeMap t (some (.int kd n))).run P w=.ok (.map (some w.heap.size)) (w.alloc (.map #[] 0)):=by
 simp[Instr.makeMap,run_underlying ht];rfl
def qH7(w:World)(b n:Nat)(S:List Tx):Prop:=∃D:DataW Unit,w.ownsMap Tryz.prog 9 (plainElem Tryz.prog 4) b n D/\∀t:Tx,D.atKey (.string t) (.lit (.bool false))=.lit (.bool (decide (t∈S)))
def qEY(w:World)(b n:Nat)(f:Int->Int):Prop:=∃D:DataW Unit,w.ownsMap Tryz.prog 3 (plainElem Tryz.prog 3) b n D/\∀i:Int,D.atKey (.int .i64 i) (.lit (.int .i64 0))=.lit (.int .i64 (f i))
theorem qR3(w:World):(zeroValue 4).run Tryz.prog w=.ok (.bool false) w:=by kernel_rfl
theorem qPR(w:World):(zeroValue 3).run Tryz.prog w=.ok (.int .i64 0) w:=by kernel_rfl
theorem qH7.made(w:World):qH7 (w.alloc (.map #[] 0)) w.heap.size 0 []:=⟨.map [],World.ownsMap_made _ _ _ _,fun t=>by simp[DataW.atKey]⟩
theorem qEY.made(w:World):qEY (w.alloc (.map #[] 0)) w.heap.size 0 (fun _=>0):=⟨.map [],World.ownsMap_made _ _ _ _,fun t=>by simp[DataW.atKey]⟩
theorem qH7.only{S:Nat->Prop}{w w':World}{b n:Nat}{l:List Tx}(h:qH7 w b n l)(ho:qAc S w w')(hS:¬S b):qH7 w' b n l:=by
 obtain⟨D,⟨es,ck,hb,r⟩,hD⟩:=h;exact⟨D,⟨es,ck,(ho.block b (Array.getElem?_eq_some_iff.1 hb).1 hS).trans hb,r⟩,hD⟩
theorem qEY.only{S:Nat->Prop}{w w':World}{b n:Nat}{f:Int->Int}(h:qEY w b n f)(ho:qAc S w w')(hS:¬S b):qEY w' b n f:=by
 obtain⟨D,⟨es,ck,hb,r⟩,hD⟩:=h;exact⟨D,⟨es,ck,(ho.block b (Array.getElem?_eq_some_iff.1 hb).1 hS).trans hb,r⟩,hD⟩
theorem qH7.below{w w':World}{b n:Nat}{l:List Tx}(h:qH7 w b n l)(hb:Below w.heap.size w w'):qH7 w' b n l:=h.only (S:=fun _=>False) (qAc.of_below hb) (fun h=>h)
theorem qEY.below{w w':World}{b n:Nat}{f:Int->Int}(h:qEY w b n f)(hb:Below w.heap.size w w'):qEY w' b n f:=h.only (S:=fun _=>False) (qAc.of_below hb) (fun h=>h)
theorem qH7.lt{w:World}{b n:Nat}{l:List Tx}(h:qH7 w b n l):b<w.heap.size:=by
 obtain⟨D,h,_⟩:=h;exact h.lt
theorem qEY.lt{w:World}{b n:Nat}{f:Int->Int}(h:qEY w b n f):b<w.heap.size:=by
 obtain⟨D,h,_⟩:=h;exact h.lt
theorem qEc{P:Program}{e:TypeId}(he:P.underlying e=some .bool){v:Value}{z:DataW Unit×List MemPlace}(h:plainElem P e v=some z):∃x,v=.bool x/\z=(.lit (.bool x),[]):=by
 unfold plainElem at h;rw[he]at h;cases v<;>simp at h
 exact⟨_,rfl,h.symm⟩
theorem qH7.look{w:World}{b n:Nat}{l:List Tx}(h:qH7 w b n l)(x:Tx)(hx:x.length<=1000):
 (Instr.lookup 196 (.map (some b)) (.string ⟨x.toArray⟩) false).run Tryz.prog w=.ok (.bool (decide (x∈l))) w:=by
 obtain⟨D,ho,hD⟩:=h;obtain⟨v,ps,hrun,hv⟩:=ho.lookup (string_keyed Tryz.underlying9) Tryz.underlying196 (qR3 w) (plainElem_bool Tryz.underlying4 false) (keyOf_string_mk Tryz.underlying9 (s:=⟨x.toArray⟩) (show x.toArray.size<=maxLen by simp;unfold maxLen;omega));obtain⟨y,rfl,hy⟩:=qEc Tryz.underlying4 hv;simp only[Prod.mk.injEq]at hy;have h1:=Lit.bool.inj (DataW.lit.inj ((hD x).symm.trans hy.1));clear hy hv;subst h1;exact hrun
theorem qEY.look{w:World}{b n:Nat}{f:Int->Int}(h:qEY w b n f)(x:Int)(hx: -9223372036854775808<=x/\x<=9223372036854775807):
 (Instr.lookup 197 (.map (some b)) (.int .i64 x) false).run Tryz.prog w=.ok (.int .i64 (f x)) w:=by
 obtain⟨D,ho,hD⟩:=h;obtain⟨c,hrun,hat,_⟩:=ho.lookup_int (int_keyed Tryz.underlying3) Tryz.underlying197 Tryz.underlying3 (qPR w) (keyOf_int_mk Tryz.underlying3 (WalkArith.wf_i64 hx));have h1:=(Lit.int.inj (DataW.lit.inj ((hD x).symm.trans hat))).2;clear hat;subst h1;exact hrun
theorem qFs{w:World}{ops:Array Oper}{rest:List Oper}{o:Oper}{a:Act}{Q:Exit->Act->World->Prop}(hg:o.guard=none)(m x v:Operand)(hop:o.op=Op.mapUpdate 196 m x v)
 (b n:Nat)(l:List Tx)(k:Tx)(hm:a.eval m=.map (some b))(hx:a.eval x=.string ⟨k.toArray⟩)(hv:a.eval v=.bool true)(h:qH7 w b n l)(hk:k.length<=1000)(hn:n<=1000000)
 (hK:∀w',Hid (qH7 w' b (n+1) (k::l))->Hid (qAc (fun c=>c=b) w w')->wpList Tryz.prog ops Q rest (a.put o.dst undef) w'):wpList Tryz.prog ops Q (o::rest) a w:=by
 obtain⟨D,ho,hD⟩:=h;refine wpList_mapUpdate_own w hg m x v _ hop 9 4 (string_keyed Tryz.underlying9) Tryz.underlying196 _ b n D hm ho (by unfold maxLen;omega) _ _ (.string k) hx hv (keyOf_string_mk Tryz.underlying9 (s:=⟨k.toArray⟩) (show k.toArray.size<=maxLen by simp;unfold maxLen;omega)) _ [] (plainElem_bool Tryz.underlying4 true) ?_;intro w' ho' hgr;refine hK w' (hZ ⟨_,ho',fun t=> ?_⟩) (hZ ?_)
 ·by_cases e:t=k
  ·subst e
   rw[atKey_put_same ho.isMap (by simp[WideAt.IsKeyLit])];simp
  ·rw[atKey_put_other (fun h=>e (by injection h)),hD t]
   simp[e]
 ·exact⟨hgr.os,hgr.tape,hgr.output,hgr.size,fun k hk hne=>hgr.block k hk (fun e=>hne (by injection e))⟩
theorem qFr{w:World}{ops:Array Oper}{rest:List Oper}{o:Oper}{a:Act}{Q:Exit->Act->World->Prop}(hg:o.guard=none)(m x v:Operand)(hop:o.op=Op.mapUpdate 197 m x v)
 (b n:Nat)(f:Int->Int)(k d:Int)(hm:a.eval m=.map (some b))(hx:a.eval x=.int .i64 k)(hv:a.eval v=.int .i64 d)(h:qEY w b n f)(hk: -9223372036854775808<=k/\k<=9223372036854775807)(hd: -9223372036854775808<=d/\d<=9223372036854775807)(hn:n<=1000000)
 (hK:∀w',Hid (qEY w' b (n+1) (fun i=>if i=k then d else f i))->Hid (qAc (fun c=>c=b) w w')->wpList Tryz.prog ops Q rest (a.put o.dst undef) w'):wpList Tryz.prog ops Q (o::rest) a w:=by
 obtain⟨D,ho,hD⟩:=h;refine wpList_mapUpdate_own w hg m x v _ hop 3 3 (int_keyed Tryz.underlying3) Tryz.underlying197 _ b n D hm ho (by unfold maxLen;omega) _ _ (.int .i64 k) hx hv (keyOf_int_mk Tryz.underlying3 (WalkArith.wf_i64 hk)) _ [] (plainElem_int Tryz.underlying3 (WalkArith.wf_i64 hd)) ?_;intro w' ho' hgr;refine hK w' (hZ ⟨_,ho',fun t=> ?_⟩) (hZ ?_)
 ·by_cases e:t=k
  ·subst e
   rw[atKey_put_same ho.isMap (by simp[WideAt.IsKeyLit])];simp
  ·rw[atKey_put_other (fun h=>e (by injection h)),hD t]
   simp[e]
 ·exact⟨hgr.os,hgr.tape,hgr.output,hgr.size,fun k hk hne=>hgr.block k hk (fun e=>hne (by injection e))⟩
theorem qIo(r:Rul)(p:Pl)(w:World):Calls Tryz.prog 85 #[qGu r p] w fun e w'=>e=.returned (.string ⟨(r.name).toArray⟩)/\Below w.heap.size w w':=by
 unfold qGu
 go_enter Tryz.func85,Tryz.ntmps85
 go_wp2_with fail
 go_ret;exact⟨rfl,aR⟩
theorem qKa(v:Value)(l:List Rul)(w:World)(h:qA1 w v l)(hl:l.length<=1000)(hn:∀x∈l,(x.name).length<=1000):
 Calls Tryz.prog 84 #[v,.func (.func 85) #[] #[]] w fun e w'=>e=.returned (.bool (decide ((l.map (fun x=>x.name)).Nodup)))/\Below w.heap.size w w':=by
 have HL:=hZ h;have hmk:=fun w=>qBr (P:=Tryz.prog) 196 9 4 .i64 (l.length:Int) Tryz.underlying196 w;obtain⟨a0,c0,rfl,h1,h2⟩:=h.form;clear h
 go_enter Tryz.func84,Tryz.ntmps84
 go_wp2_with fail
 clear hmk
 go_loopw [13] (fun i wr=>∃(j:Nat) (S:List Tx),j<=l.length/\i=.int .i64 j/\Hid (qH7 wr w.heap.size j S)/\Hid (∀t,t∈S ↔ t∈(l.take j).map (fun x=>x.name))/\Hid (((l.take j).map (fun x=>x.name)).Nodup)/\Hid (Below w.heap.size w wr)) (fun i _=>l.length-(intOf i).toNat)
 case atStart=>exact⟨0,[],by omega,rfl,hZ (qH7.made w),hZ (by simp),hZ (by simp),hZ aR⟩
 case round=>
  obtain⟨j,S,hj,rfl,HM,HS,HN,HB⟩:=hrel;by_cases hlt:j<l.length
  ·obtain⟨b,cap,p,hv,hb,hr,hc⟩:=qA1.at_ (HL.o.below HB.o) j hlt
   injection hv with e1 e2 e3;subst e1;clear e2 e3;obtain⟨c0,c1,c2,c3,c4,c5,c6,c7,c8⟩:=hc;clear hr;have hx:=hn l[j] (List.getElem_mem hlt);have HT:Hid ((l.take (j+1)).map (fun x=>x.name)=(l.take j).map (fun x=>x.name)++[l[j].name]):=hZ (by rw[List.take_succ_eq_append_getElem hlt,List.map_append];rfl);have HNo:Hid ((l[j].name)∈(l.take j).map (fun x=>x.name)->¬(l.map (fun x=>x.name)).Nodup):=hZ (fun hm hnd=>by
    rw[<-List.take_append_drop (j+1) l,List.map_append,HT.o]at hnd;have h3:=(List.nodup_append.1 (List.nodup_append.1 hnd).1).2.2;exact h3 _ hm _ (by simp) rfl)
   have HC1:=hZ (qIo l[j] p);unfold qGu at HC1;generalize l[j]=x at *
   go_wp2_with fail
   refine(HC1.o _).mono ?_;rintro e w5 ⟨rfl,hB5⟩;have HM5:=hZ ((HM.o.below aR).below hB5);have hcell:=hB5.cell (p:=⟨wr.heap.size,0,none⟩) (by simp);have hcell1:=hB5.cell (p:=⟨wr.heap.size,1,none⟩) (by simp);have hcell2:=hB5.cell (p:=⟨wr.heap.size,2,none⟩) (by simp);have hcell3:=hB5.cell (p:=⟨wr.heap.size,3,none⟩) (by simp);have hcell4:=hB5.cell (p:=⟨wr.heap.size,4,none⟩) (by simp);have hcell5:=hB5.cell (p:=⟨wr.heap.size,5,none⟩) (by simp);have hcell6:=hB5.cell (p:=⟨wr.heap.size,6,none⟩) (by simp);have hcell7:=hB5.cell (p:=⟨wr.heap.size,7,none⟩) (by simp);have hcell8:=hB5.cell (p:=⟨wr.heap.size,8,none⟩) (by simp);have HB5:=hZ ((HB.o.alloc HB.o.size _).trans (hB5.mono (by simp;have:=HB.o.size;omega)));have hw5:wr.heap.size<w5.heap.size:=by have:=hB5.size;simp at this;omega
   clear hB5 c0 c1 c2 c3 c4 c5 c6 c7 c8 hb;have hlook:=HM5.o.look (x.name) hx;by_cases hin:(x.name)∈S
   ·have hd:decide ((x.name)∈S)=true:=by simpa using hin
    rw[hd]at hlook
    go_wp2_with fail
    go_ret;refine⟨?_,HB5.o⟩;rw[decide_eq_false (HNo.o ((HS.o _).1 hin))];rfl
   ·have hd:decide ((x.name)∈S)=false:=by simpa using hin
    rw[hd]at hlook
    go_wp2_with fail
    refine(HC1.o _).mono ?_;rintro e w6 ⟨rfl,hB6⟩;have HM6:=hZ (HM5.o.below hB6);have HB6:=hZ (HB5.o.trans (hB6.mono HB5.o.size));clear hB6 hlook
    go_wp2_with (at_mapUpdate;refine qFs rfl _ _ _ rfl w.heap.size j S (x.name) rfl rfl rfl HM6.o hx (by omega) ?_)
    intro w7 HM7 HO7;have HB7:=hZ (HO7.o.below HB6.o HB6.o.size (fun k hk=>by omega));clear HO7
    go_wp2_with fail
    go_roundw
    case rel=>
     refine⟨j+1,_,by omega,by go_num,HM7,hZ (fun t=> ?_),hZ ?_,HB7⟩
     ·rw[HT.o,List.mem_append,<-HS.o t,List.mem_cons,List.mem_singleton]
      exact Or.comm
     ·rw[HT.o]
      refine List.nodup_append.2 ⟨HN.o,by simp,fun a ha b hb e=> ?_⟩;rw[List.mem_singleton]at hb;subst hb e;exact hin ((HS.o _).2 ha)
    case measure=>simp[intOf];omega
  ·have HN2:=HN.o
   rw[List.take_of_length_le (by omega)]at HN2;have HN3:=hZ HN2;clear HN2
   go_wp2_with fail
   go_ret;refine⟨?_,HB.o⟩;rw[decide_eq_true HN3.o];rfl
theorem qIM(r:Tx)(w:World):Calls Tryz.prog 83 #[qLN r] w fun e w'=>e=.returned (.string ⟨(r).toArray⟩)/\Below w.heap.size w w':=by
 unfold qLN
 go_enter Tryz.func83,Tryz.ntmps83
 go_wp2_with fail
 go_ret;exact⟨rfl,aR⟩
theorem qGh(v:Value)(l:List Tx)(w:World)(h:qAL w v l)(hl:l.length<=1000)(hn:∀x∈l,(x).length<=1000):
 Calls Tryz.prog 82 #[v,.func (.func 83) #[] #[]] w fun e w'=>e=.returned (.bool (decide ((l.map (fun x=>x)).Nodup)))/\Below w.heap.size w w':=by
 have HL:=hZ h;have hmk:=fun w=>qBr (P:=Tryz.prog) 196 9 4 .i64 (l.length:Int) Tryz.underlying196 w;obtain⟨a0,c0,rfl,h1,h2⟩:=h.form;clear h
 go_enter Tryz.func82,Tryz.ntmps82
 go_wp2_with fail
 clear hmk
 go_loopw [13] (fun i wr=>∃(j:Nat) (S:List Tx),j<=l.length/\i=.int .i64 j/\Hid (qH7 wr w.heap.size j S)/\Hid (∀t,t∈S ↔ t∈(l.take j).map (fun x=>x))/\Hid (((l.take j).map (fun x=>x)).Nodup)/\Hid (Below w.heap.size w wr)) (fun i _=>l.length-(intOf i).toNat)
 case atStart=>exact⟨0,[],by omega,rfl,hZ (qH7.made w),hZ (by simp),hZ (by simp),hZ aR⟩
 case round=>
  obtain⟨j,S,hj,rfl,HM,HS,HN,HB⟩:=hrel;by_cases hlt:j<l.length
  ·obtain⟨b,cap,hv,hb,hc⟩:=qAL.at_ (HL.o.below HB.o) j hlt
   injection hv with e1 e2 e3;subst e1;clear e2 e3;obtain⟨c0,c1,c2,c3,c4,c5,c6⟩:=hc
   skip
   have hx:=hn l[j] (List.getElem_mem hlt);have HT:Hid ((l.take (j+1)).map (fun x=>x)=(l.take j).map (fun x=>x)++[l[j]]):=hZ (by rw[List.take_succ_eq_append_getElem hlt,List.map_append];rfl);have HNo:Hid ((l[j])∈(l.take j).map (fun x=>x)->¬(l.map (fun x=>x)).Nodup):=hZ (fun hm hnd=>by
    rw[<-List.take_append_drop (j+1) l,List.map_append,HT.o]at hnd;have h3:=(List.nodup_append.1 (List.nodup_append.1 hnd).1).2.2;exact h3 _ hm _ (by simp) rfl)
   have HC1:=hZ (qIM l[j]);unfold qLN at HC1;generalize l[j]=x at *
   go_wp2_with fail
   refine(HC1.o _).mono ?_;rintro e w5 ⟨rfl,hB5⟩;have HM5:=hZ ((HM.o.below aR).below hB5);have hcell:=hB5.cell (p:=⟨wr.heap.size,0,none⟩) (by simp);have hcell1:=hB5.cell (p:=⟨wr.heap.size,1,none⟩) (by simp);have hcell2:=hB5.cell (p:=⟨wr.heap.size,2,none⟩) (by simp);have hcell3:=hB5.cell (p:=⟨wr.heap.size,3,none⟩) (by simp);have hcell4:=hB5.cell (p:=⟨wr.heap.size,4,none⟩) (by simp);have hcell5:=hB5.cell (p:=⟨wr.heap.size,5,none⟩) (by simp);have hcell6:=hB5.cell (p:=⟨wr.heap.size,6,none⟩) (by simp);have HB5:=hZ ((HB.o.alloc HB.o.size _).trans (hB5.mono (by simp;have:=HB.o.size;omega)));have hw5:wr.heap.size<w5.heap.size:=by have:=hB5.size;simp at this;omega
   clear hB5 c0 c1 c2 c3 c4 c5 c6 hb;have hlook:=HM5.o.look (x) hx;by_cases hin:(x)∈S
   ·have hd:decide ((x)∈S)=true:=by simpa using hin
    rw[hd]at hlook
    go_wp2_with fail
    go_ret;refine⟨?_,HB5.o⟩;rw[decide_eq_false (HNo.o ((HS.o _).1 hin))];rfl
   ·have hd:decide ((x)∈S)=false:=by simpa using hin
    rw[hd]at hlook
    go_wp2_with fail
    refine(HC1.o _).mono ?_;rintro e w6 ⟨rfl,hB6⟩;have HM6:=hZ (HM5.o.below hB6);have HB6:=hZ (HB5.o.trans (hB6.mono HB5.o.size));clear hB6 hlook
    go_wp2_with (at_mapUpdate;refine qFs rfl _ _ _ rfl w.heap.size j S (x) rfl rfl rfl HM6.o hx (by omega) ?_)
    intro w7 HM7 HO7;have HB7:=hZ (HO7.o.below HB6.o HB6.o.size (fun k hk=>by omega));clear HO7
    go_wp2_with fail
    go_roundw
    case rel=>
     refine⟨j+1,_,by omega,by go_num,HM7,hZ (fun t=> ?_),hZ ?_,HB7⟩
     ·rw[HT.o,List.mem_append,<-HS.o t,List.mem_cons,List.mem_singleton]
      exact Or.comm
     ·rw[HT.o]
      refine List.nodup_append.2 ⟨HN.o,by simp,fun a ha b hb e=> ?_⟩;rw[List.mem_singleton]at hb;subst hb e;exact hin ((HS.o _).2 ha)
    case measure=>simp[intOf];omega
  ·have HN2:=HN.o
   rw[List.take_of_length_le (by omega)]at HN2;have HN3:=hZ HN2;clear HN2
   go_wp2_with fail
   go_ret;refine⟨?_,HB.o⟩;rw[decide_eq_true HN3.o];rfl
theorem qBS{n M K:Nat}{l:List Amt}(h:qAM n M K l)(i:Nat):ofI l i<=K*M:=by
 have key:∀l:List Amt,(∀a∈l,a.n<=M)->ofI l i<=l.length*M:=by
  intro l
  induction l with
  |nil=>intro _;simp[qAR]
  |cons x r ih=>
   intro h;have h1:=ih (fun a ha=>h a (by simp[ha]));have h2:=h x (by simp);rw[qEd,List.length_cons,Nat.succ_mul]
   split<;>omega
 exact Nat.le_trans (key l (fun a ha=>(h.all a ha).2.2)) (Nat.mul_le_mul_right _ h.len)
def qRH(f:List Nat->List (List Nat)):List Nat->List (List Nat)
 |[]=>[]
 |x::r=>(f (x::r)).map (x:: ·)++qRH f r
def ext:Nat->List Nat->List (List Nat)
 |0,_=>[[]]
 |m+1,u=>qRH (ext m) u
theorem qFn(l:List Amt)(j:Nat)(hj:j<l.length)(i:Nat):ofI (l.take (j+1)) i=ofI (l.take j) i+if l[j].item=i then l[j].n else 0:=by
 rw[List.take_succ_eq_append_getElem hj,qB5,qEd,qAR];omega
def qGw(l:List Amt)(z:Int):Int:=if 0<=z then ((ofI l z.toNat:Nat):Int)else 0
theorem qDD(l:List Amt)(i:Nat):qGw l (i:Int)=(ofI l i:Nat):=by simp[qGw]
theorem qI6(l:List Amt)(j:Nat)(hj:j<l.length):(fun i:Int=>if i=(l[j].item:Int)then qGw (l.take j) (l[j].item:Int)+(l[j].n:Int)else qGw (l.take j) i)=qGw (l.take (j+1)):=by
 funext z
 by_cases h:z=(l[j].item:Int)
 ·rw[if_pos h,h,qDD,qDD,qFn l j hj,if_pos rfl]
  omega
 ·rw[if_neg h]
  unfold qGw;by_cases hz:0<=z
  ·rw[if_pos hz,if_pos hz,qFn l j hj,if_neg (by omega)]
   rfl
  ·rw[if_neg hz,if_neg hz]
theorem qBd(l:List Amt)(j i:Nat):ofI (l.take j) i<=ofI l i:=by
 conv=>rhs;rw[<-List.take_append_drop j l,qB5]
 omega
theorem qEY.mono{w:World}{b n n':Nat}{f:Int->Int}(h:qEY w b n f)(hn:n<=n'):qEY w b n' f:=by
 obtain⟨D,h,hD⟩:=h;exact⟨D,h.mono hn,hD⟩
theorem qI3(v v2:Value)(lt lb:List Amt)(n:Nat)(w:World)(h:qAl w v lt)(h':qAl w v2 lb)(hg:qAM n 1000 2 lt)(hg':qAM n 1000 2 lb)(hn:n<=1000)(hin:∀i,ofI lb i<=ofI lt i):
 Calls Tryz.prog 94 #[v,v2] w fun e w'=>e=.returned (.bool true)/\Below w.heap.size w w':=by
 have HL:=hZ h;have HL2:=hZ h';have HG:=hZ hg;have HG2:=hZ hg';have HI:=hZ hin;have hl1:=hg.len;have hl2:=hg'.len;have hmk:=fun w=> @run_makeMap Tryz.prog 197 w;obtain⟨a0,c0,rfl,h1,h2⟩:=h.form;obtain⟨a2,c2,rfl,h3,h4⟩:=h'.form;clear h h' hg hg' hin
 go_enter Tryz.func94,Tryz.ntmps94
 go_wp2_with fail
 clear hmk
 go_loopw [17] (fun i wr=>∃(j:Nat),j<=lt.length/\i=.int .i64 j/\Hid (qEY wr w.heap.size j (qGw (lt.take j)))/\Hid (qEY wr (w.heap.size+1) 0 (qGw (lb.take 0)))/\Hid (Below w.heap.size w wr)) (fun i _=>lt.length-(intOf i).toNat)
 case atStart=>
  refine⟨0,by omega,rfl,hZ ?_,hZ ?_,hZ (aR.alloc (by simp) _)⟩
  ·have h9:=(qEY.made w).below ((Below.refl _ _).alloc (Nat.le_refl _) (.map #[] 0))
   have:qGw (lt.take 0)=fun _=>0:=by funext z;simp[qGw,qAR]
   rw[this];exact h9
  ·have h9:=qEY.made (w.alloc (.map #[] 0))
   have:qGw (lb.take 0)=fun _=>0:=by funext z;simp[qGw,qAR]
   rw[this];simpa using h9
 case round=>
  obtain⟨j,hj,rfl,HM,HX,HB⟩:=hrel;by_cases hlt:j<lt.length
  ·obtain⟨b,cap,hv,hb,c0,c1⟩:=qAl.at_ (HL.o.below HB.o) j hlt
   injection hv with e1 e2 e3;subst e1;clear e2 e3;have hx:=HG.o.all lt[j] (List.getElem_mem hlt);have HS:=hZ (qI6 lt j hlt);have hle:=qBS HG.o lt[j].item;have hle2:=qBd lt j lt[j].item;have hcn:=qDD (lt.take j) lt[j].item;generalize lt[j]=x at *;obtain⟨xi,xn⟩:=x;simp only[]at c0 c1 hx hle hle2 hcn HS;have HM5:=hZ (HM.o.below ((Below.refl _ wr).alloc (Nat.le_refl _) (.cells #[.int .i64 (xi:Int),.int .i64 (xn:Int)] 108)));have HX5:=hZ (HX.o.below ((Below.refl _ wr).alloc (Nat.le_refl _) (.cells #[.int .i64 (xi:Int),.int .i64 (xn:Int)] 108)));have hlook:=HM5.o.look (xi:Int) (by omega);generalize hz:qGw (lt.take j) (xi:Int)=z at *;have hz1:0<=z/\z<=2000:=by omega
   have HZ:=hZ hz;have hwr:=HB.o.size;clear hz hcn hle hle2
   go_wp2_with (at_mapUpdate;refine qFr rfl _ _ _ rfl (w.heap.size) j _ _ _ rfl rfl rfl HM5.o (by omega) (by omega) (by omega) ?_)
   intro w7 HM7 HO7;have HM8:Hid (qEY w7 (w.heap.size) (j+1) (qGw (lt.take (j+1)))):=hZ (by have h9:=HM7.o;rw[<-HS.o];exact h9);have HB7:=hZ (HO7.o.below (HB.o.alloc HB.o.size _) (by simp;omega) (fun k hk=>by omega));have HX7:=hZ (HX5.o.only HO7.o (by omega));clear HO7 HM7 hlook
   go_wp2_with fail
   go_roundw
   case rel=>exact⟨j+1,by omega,by go_num,HM8,HX7,HB7⟩
   case measure=>simp[intOf];omega
  ·have HM2:=HM.o
   rw[List.take_of_length_le (show lt.length<=j by omega)]at HM2;have HT:=hZ (HM2.mono (show j<=2 by omega));have HX1:=HX;have HB1:=HB;clear HM2 HM HX HB
   go_wp2_with fail
   clear hj;obtain⟨wo,rfl⟩:=eY wr
   go_loopw [31] (fun i wr=>∃(j:Nat),j<=lb.length/\i=.int .i64 j/\Hid (qEY wr (w.heap.size+1) j (qGw (lb.take j)))/\Hid (qEY wr w.heap.size 2 (qGw lt))/\Hid (Below w.heap.size w wr)) (fun i _=>lb.length-(intOf i).toNat)
   case atStart=>exact⟨0,by omega,rfl,HX1,HT,HB1⟩
   case round=>
    clear HX1 HT HB1;obtain⟨j,hj,rfl,HM,HX,HB⟩:=hrel;by_cases hlt:j<lb.length
    ·obtain⟨b,cap,hv,hb,c0,c1⟩:=qAl.at_ (HL2.o.below HB.o) j hlt
     injection hv with e1 e2 e3;subst e1;clear e2 e3;have hx:=HG2.o.all lb[j] (List.getElem_mem hlt);have HS:=hZ (qI6 lb j hlt);have hle:=qBS HG2.o lb[j].item;have hle2:=qBd lb j lb[j].item;have hcn:=qDD (lb.take j) lb[j].item;generalize lb[j]=x at *;obtain⟨xi,xn⟩:=x;simp only[]at c0 c1 hx hle hle2 hcn HS;have HM5:=hZ (HM.o.below ((Below.refl _ wr).alloc (Nat.le_refl _) (.cells #[.int .i64 (xi:Int),.int .i64 (xn:Int)] 108)));have HX5:=hZ (HX.o.below ((Below.refl _ wr).alloc (Nat.le_refl _) (.cells #[.int .i64 (xi:Int),.int .i64 (xn:Int)] 108)));have hlook:=HM5.o.look (xi:Int) (by omega);generalize hz:qGw (lb.take j) (xi:Int)=z at *;have hz1:0<=z/\z<=2000:=by omega
     have HZ:=hZ hz;have hwr:=HB.o.size;clear hz hcn hle hle2
     go_wp2_with (at_mapUpdate;refine qFr rfl _ _ _ rfl (w.heap.size+1) j _ _ _ rfl rfl rfl HM5.o (by omega) (by omega) (by omega) ?_)
     intro w7 HM7 HO7;have HM8:Hid (qEY w7 (w.heap.size+1) (j+1) (qGw (lb.take (j+1)))):=hZ (by have h9:=HM7.o;rw[<-HS.o];exact h9);have HB7:=hZ (HO7.o.below (HB.o.alloc HB.o.size _) (by simp;omega) (fun k hk=>by omega));have HX7:=hZ (HX5.o.only HO7.o (by omega));clear HO7 HM7 hlook
     go_wp2_with fail
     go_roundw
     case rel=>exact⟨j+1,by omega,by go_num,HM8,HX7,HB7⟩
     case measure=>simp[intOf];omega
    ·have HM2:=HM.o
     rw[List.take_of_length_le (show lb.length<=j by omega)]at HM2;have HT:=hZ (HM2.mono (show j<=2 by omega));have HX1:=HX;have HB1:=HB;clear HM2 HM HX HB
     go_wp2_with fail
     clear hj;obtain⟨wp,rfl⟩:=eY wr
     go_loopw [45] (fun i wr=>∃(j:Nat),j<=lb.length/\i=.int .i64 j/\Hid (qEY wr (w.heap.size+1) 2 (qGw lb))/\Hid (qEY wr w.heap.size 2 (qGw lt))/\Hid (Below w.heap.size w wr)) (fun i _=>lb.length-(intOf i).toNat)
     case atStart=>exact⟨0,by omega,rfl,HT,HX1,HB1⟩
     case round=>
      clear HX1 HT HB1;obtain⟨j,hj,rfl,HM,HX,HB⟩:=hrel;by_cases hlt:j<lb.length
      ·obtain⟨b,cap,hv,hb,c0,c1⟩:=qAl.at_ (HL2.o.below HB.o) j hlt
       injection hv with e1 e2 e3;subst e1;clear e2 e3;have hx:=HG2.o.all lb[j] (List.getElem_mem hlt);have hle:=HI.o lb[j].item;have hcn:=qDD lb lb[j].item;have hcm:=qDD lt lb[j].item;generalize lb[j]=x at *;obtain⟨xi,xn⟩:=x;simp only[]at c0 c1 hx hle hcn hcm;have HM5:=hZ (HM.o.below ((Below.refl _ wr).alloc (Nat.le_refl _) (.cells #[.int .i64 (xi:Int),.int .i64 (xn:Int)] 108)));have HX5:=hZ (HX.o.below ((Below.refl _ wr).alloc (Nat.le_refl _) (.cells #[.int .i64 (xi:Int),.int .i64 (xn:Int)] 108)));have hlook:=HM5.o.look (xi:Int) (by omega);have hlook2:=HX5.o.look (xi:Int) (by omega);generalize hz:qGw lb (xi:Int)=z at *;generalize hz2:qGw lt (xi:Int)=z2 at *;have hz3:z<=z2:=by omega
       have q1:decide (z2<z)=false:=by simp;omega
       have hwr:=HB.o.size;clear hz hz2 hcn hcm hle
       go_wp2_with fail
       go_roundw
       case rel=>exact⟨j+1,by omega,by go_num,HM5,HX5,hZ (HB.o.alloc HB.o.size _)⟩
       case measure=>simp[intOf];omega
      ·go_wp2_with fail
       go_ret;exact⟨rfl,HB.o⟩
open Go Go.RowKit
def qEF(fn:FuncId)(tmps:Array Value)(ps:Array Tmp)(assign body:Code)(D:Nat)(st:LoopState)(pe:Option Code):Loop:=
 { state:=st,pending:=pe,fn:=fn,tmps:=tmps,params:=ps,assign:=assign,body:=body,defers:=D }
def qFJ(l:Nat)(rec:LoopState->Option Code->Loop)(R:Ending->World->Prop):Exit->Act->World->Prop
 |.normal,_,W=>W.heap[l]? =some (.loop (rec .busy none))/\R (.returned (.bool true)) (W.putObj l (.loop (rec .ready none)))
 |.ret,_,W=>W.heap[l]? =some (.loop (rec .busy none))/\R (.returned (.bool false)) (W.putObj l (.loop (rec .done (some .ret))))
 |_,_,_=>False
theorem qB8{F:Fence}{m:Nat}{P:Program}{l D:Nat}{fn:FuncId}{tmps:Array Value}{ps:Array Tmp}{assign body:Code}{args:Array Value}{W:World}{R:Ending->World->Prop}(hfn:F.fn fn)
 (hl:W.heap[l]? =some (.loop (qEF fn tmps ps assign body D .ready none)))(hps:args.size=ps.size)
 (h:assign.wpIn (F.inRound l) m P (Exit.then (fun a₁ W₁=>W₁.heap[l]? =some (.loop (qEF fn tmps ps assign body D .ready none))/\
  body.wpIn (F.inRound l) m P (qFJ l (qEF fn tmps ps assign body D) R) a₁ (W₁.putObj l (.loop (qEF fn tmps ps assign body D .busy none)))) (fun _ _ _=>False))
  { tmps:=(ps.zip args).foldl (fun t (p,v)=>t.setIfInBounds p v) tmps,defers:=[] } W):
 YieldAt F m P l args W R:=by
 have hy:=run_yield (P:=P) (args:=args) hl hps;refine⟨fn,_,assign,body,hy,roundIn_of_wpIn hfn (wpIn_mono h ?_)⟩;rintro e a₁ W₁ hq;cases e with
 |normal=>
  obtain⟨hl1,hb⟩:=hq;refine⟨_,run_beginRound hl1 rfl,wpIn_mono hb ?_⟩;rintro e a₂ W₂ hp;cases e with
  |normal=>
   obtain⟨hl2,hr⟩:=hp;exact⟨_,_,run_endRound none hl2,hr⟩
  |ret=>
   obtain⟨hl2,hr⟩:=hp;exact⟨_,_,run_endRound (some .ret) hl2,hr⟩
  |exit id=>exact hp.elim
  |goto t=>exact hp.elim
  |panic c=>exact hp.elim
  |outgrown=>exact hp.elim
 |exit id=>exact hq.elim
 |goto t=>exact hq.elim
 |ret=>exact hq.elim
 |panic c=>exact hq.elim
 |outgrown=>exact hq.elim
def qML(_F:Fence)(_n:Nat)(_P:Program)(l:Nat)(rec:LoopState->Option Code->Loop)(Q:Exit->Act->World->Prop)(a:Act)(W:World):Prop:=
 (W.heap[l]? =some (.loop (rec .ready none))/\Q .normal a (W.putObj l (.loop (rec .exhausted none))))\/
 (W.heap[l]? =some (.loop (rec .done (some .ret)))/\Q .ret a (W.putObj l (.loop (rec .exhausted (some .ret)))))
theorem qDr{F:Fence}{n:Nat}{P:Program}{g:Operand}{ps:Array Tmp}{assign body:Code}{Q:Exit->Act->World->Prop}{a:Act}{w:World}
 (hro:F.round=none)(h1:1<=n){gf:Nat}{lb:Array Value}(hg:a.eval g=.func (.func gf) #[] lb)(hFg:F.fn gf)(eg:∀args w,(callFunc gf args).run P w=.ok (.enter gf args) w)
 (h:∀fn,F.fn fn->CallsIn F (n-1) P gf (#[.func (.yield (w.heap.size+1)) #[] #[]]++lb)
  ((w.alloc (.deferred (some []))).alloc (.loop (qEF fn a.tmps ps assign body w.heap.size .ready none)))
  fun e W'=>(∃v,e=.returned v)/\qML F n P (w.heap.size+1) (qEF fn a.tmps ps assign body w.heap.size) Q { a with defers:={ target:=.collected w.heap.size,args:=#[] }::a.defers } W'):
 (Code.rangeFunc g ps assign body).wpIn F n P Q a w:=by
 refine wpIn_rangeFunc ?_;intro fn hfn;rw[hro];obtain⟨W1,hW1⟩:∃W1,(w.alloc (.deferred (some []))).alloc (.loop (qEF fn a.tmps ps assign body w.heap.size .ready none))=W1:=⟨_,rfl⟩;have hc:=h fn hfn;rw[hW1]at hc;refine⟨w.heap.size+1,[{ target:=.collected w.heap.size,args:=#[] }],W1,{ target:=.fn (.func gf) lb,args:=#[.func (.yield (w.heap.size+1)) #[] #[]] },W1,gf,
  #[.func (.yield (w.heap.size+1)) #[] #[]]++lb,W1,?_,?_,?_,?_,fun _=>h1,?_⟩
 ·rw[<-hW1];exact run_enterLoop_outer _ _ _ _ _
 ·simp only[resolve,hg]
  simp[go_sem]
 ·intro f' hf';simp[Target.leads]at hf';subst hf';exact hFg
 ·simp[invoke,go_sem,eg]
 ·refine hc.mono ?_
  clear hc h hW1;rintro e W ⟨⟨v,rfl⟩,⟨hl,hq⟩|⟨hl,hq⟩⟩
  ·have hr:=run_endLoop (P:=P) hl (by simp[qEF])
   exact⟨none,_,hr,hq⟩
  ·have hr:=run_endLoop (P:=P) hl (by simp[qEF])
   refine⟨some .ret,_,hr,?_⟩;exact wpIn_ret hq
abbrev Bs:=List UInt8
def cls(c:Int):Int:=
 if c==32 then 0 else if c==9 then 0 else if c==10 then 0 else if c==95 then 3 else
 if c==58 then 4 else if c==59 then 4 else if c==44 then 4 else if c==40 then 4 else if c==41 then 4 else
 if c==123 then 4 else if c==125 then 4 else if c==61 then 4 else if c==60 then 4 else if c==62 then 4 else
 if c==43 then 4 else if c==46 then 4 else if c==35 then 5 else if c==45 then 6 else
 if 97<=c/\c<=122 then 1 else if 48<=c/\c<=57 then 2 else 7
def cl(c:UInt8):Int:=cls c.toNat
def kindsL:List Int:=[0,0,0,0,0,0,0,0,0,1,1,0,0,0,0,0,0,0,0,0,0,0,0,0,0,0,0,0,0,0,0,0,1,0,0,2,0,0,0,0,7,7,0,7,7,6,7,0,4,4,4,4,4,4,4,4,4,4,7,7,7,7,7,0,0,0,0,0,0,0,0,0,0,0,0,0,0,0,0,0,0,0,0,0,0,0,0,0,0,0,0,0,0,0,0,5,0,3,3,3,3,3,3,3,3,3,3,3,3,3,3,3,3,3,3,3,3,3,3,3,3,3,3,7,0,7,0,0]
def kd(c:UInt8):Int:=if c.toNat<128 then kindsL.getD c.toNat 0 else 0
def qOr(n:Int):Int:=if n=0 then 1 else if n=1 then 3 else if n=2 then 4 else if n=3 then 5 else if n=4 then 7 else if n=5 then 2 else if n=6 then 6 else 0
theorem qNr:∀n:Fin 256,kd (UInt8.ofNat n.1)=qOr (cl (UInt8.ofNat n.1)):=by decide +kernel
theorem qJX(c:UInt8):kd c=qOr (cl c):=by
 have h:=qNr ⟨c.toNat,UInt8.toNat_lt c⟩;simpa using h
theorem qJa:∀n:Fin 256,0<=cl (UInt8.ofNat n.1)/\cl (UInt8.ofNat n.1)<=7:=by decide +kernel
theorem qB0(c:UInt8):0<=cl c/\cl c<=7:=by
 have h:=qJa ⟨c.toNat,UInt8.toNat_lt c⟩;simpa using h
theorem qKf:∀n:Fin 256,(cl (UInt8.ofNat n.1)=5 ↔ n.1=35)/\(cl (UInt8.ofNat n.1)=6 ↔ n.1=45)/\(n.1=10->cl (UInt8.ofNat n.1)=0)/\(cl (UInt8.ofNat n.1)=2 ↔ (48<=n.1/\n.1<=57)):=by decide +kernel
theorem qET(c:UInt8):(cl c=5 ↔ c.toNat=35)/\(cl c=6 ↔ c.toNat=45)/\(c.toNat=10->cl c=0)/\(cl c=2 ↔ (48<=c.toNat/\c.toNat<=57)):=by
 have h:=qKf ⟨c.toNat,UInt8.toNat_lt c⟩;simpa using h
def nc(cm:Bool)(c:UInt8):Bool:=if c.toNat=10 then false else if c.toNat=35 then true else cm
def sk:Bool->Bs->Bs
 |_,[]=>[]
 |cm,c::l=>if nc cm c=false/\cl c≠0 then c::l else sk (nc cm c) l
theorem qCJ(cm:Bool)(c:UInt8)(l:Bs):sk cm (c::l)=if nc cm c=false/\cl c≠0 then c::l else sk (nc cm c) l:=rfl
theorem qD9:∀(cm:Bool) (l:Bs),sk cm l <:+l
 |_,[]=>by simp[sk]
 |cm,c::l=>by
  rw[qCJ]
  split
  ·exact List.suffix_refl _
  ·exact(qD9 _ l).trans (List.suffix_cons c l)
theorem qIg(cm:Bool)(l:Bs):(sk cm l).length<=l.length:=(qD9 cm l).length_le
theorem qED:∀(cm:Bool) (l:Bs),sk false (sk cm l)=sk cm l
 |_,[]=>rfl
 |cm,c::l=>by
  rw[qCJ]
  split
  ·rename_i h
   obtain⟨h1,h2⟩:=h;have h3:nc false c=false:=by
    unfold nc at h1 ⊢;by_cases h10:c.toNat=10
    ·simp[h10]
    ·by_cases h35:c.toNat=35
     ·simp[h35]at h1
     ·simp[h35]
   rw[qCJ,if_pos ⟨h3,h2⟩]
  ·exact qED _ l
theorem qGX:∀l:Bs,sk true l=sk false (l.dropWhile (fun c=>c != 10))
 |[]=>rfl
 |c::l=>by
  by_cases h:c=10
  ·subst h;simp[sk,nc]
  ·have h10:¬c.toNat=10:=fun e=>h (by rw[<-UInt8.toNat_inj];exact e)
   have hb:(c != 10)=true:=by simpa using h
   have h1:nc true c=true:=by simp[nc,h10]
   rw[List.dropWhile_cons];simp only[hb,if_true];rw[qCJ,h1,if_neg (by simp),qGX l]
theorem qOv(c:UInt8)(l:Bs)(h:cl c=0):sk false (c::l)=sk false l:=by
 have h35:¬c.toNat=35:=fun e=>by have:=(qET c).1.2 e;omega
 have h1:nc false c=false:=by simp[nc,h35]
 rw[qCJ,h1,if_neg (by simp[h])]
theorem qP6(c:UInt8)(l:Bs)(h:cl c=5):sk false (c::l)=sk true l:=by
 have h35:c.toNat=35:=(qET c).1.1 h;have h1:nc false c=true:=by simp[nc,h35]
 rw[qCJ,h1,if_neg (by simp)]
theorem qP5(c:UInt8)(l:Bs)(h0:cl c≠0)(h5:cl c≠5):sk false (c::l)=c::l:=by
 have h35:¬c.toNat=35:=fun e=>h5 ((qET c).1.2 e);have h1:nc false c=false:=by simp[nc,h35]
 rw[qCJ,if_pos ⟨h1,h0⟩]
def wb(c:UInt8):Bool:=decide (1<=cl c) && decide (cl c<=3)
def db(c:UInt8):Bool:=decide (cl c=2)
def tl:Bs->Nat
 |[]=>0
 |c::l=>
  if cl c=1 then 1+(l.takeWhile wb).length
  else if cl c=2 then 1+(l.takeWhile db).length
  else if cl c=4 then 1
  else if cl c=6 then (if l.head? =some 62 then 2 else 0)
  else 0
def dg(c:UInt8):Nat:=c.toNat-48
theorem qRL(c:UInt8):dg c=c.toNat-48:=rfl
attribute [irreducible] dg
def dv:Nat->Bs->Nat
 |n,[]=>n
 |n,c::l=>dv (10*n+dg c) l
theorem qGd(n:Nat)(c:UInt8)(l:Bs):dv n (c::l)=dv (10*n+dg c) l:=by rw[dv]
theorem qNN(l:Bs)(c:UInt8):∀n:Nat,dv n (l++[c])=10*dv n l+dg c:=by
 induction l with
 |nil=>intro n;rfl
 |cons d l ih=>intro n;rw[List.cons_append,qGd,qGd];exact ih _
structure Tok where
 kind:Int
 text:Bs
 n:Int
 at_:Nat
def nx(a:Nat)(l:Bs):Except Int Tok:=
 match l with
 |[]=> .error 2
 |c::r=>
  if tl (c::r)=0 then .error 2
  else if cl c=1 then (if tl (c::r)>16 then .error 4 else .ok ⟨0,(c::r).take (tl (c::r)),0,a⟩)
  else if cl c=2 then (if dv 0 ((c::r).take (tl (c::r)))>1099511627776 then .error 4 else .ok ⟨1,(c::r).take (tl (c::r)),dv 0 ((c::r).take (tl (c::r))),a⟩)
  else .ok ⟨2,(c::r).take (tl (c::r)),0,a⟩
theorem qPY:∀l:Bs,tl l<=l.length
 |[]=>Nat.le_refl _
 |c::l=>by
  have h1:=(List.takeWhile_sublist wb (l:=l)).length_le;have h2:=(List.takeWhile_sublist db (l:=l)).length_le;have h3:l.head? =some 62->1<=l.length:=by
   intro h;cases l with
   |nil=>simp at h
   |cons d l=>simp
  rw[tl,List.length_cons];by_cases a1:cl c=1
  ·rw[if_pos a1];omega
  ·by_cases a2:cl c=2
   ·rw[if_neg a1,if_pos a2];omega
   ·by_cases a4:cl c=4
    ·rw[if_neg a1,if_neg a2,if_pos a4];omega
    ·by_cases a6:cl c=6
     ·rw[if_neg a1,if_neg a2,if_neg a4,if_pos a6]
      by_cases a7:l.head? =some 62
      ·rw[if_pos a7];have:=h3 a7;omega
      ·rw[if_neg a7];omega
     ·rw[if_neg a1,if_neg a2,if_neg a4,if_neg a6];omega
theorem qM1{a:Nat}{l:Bs}{t:Tok}(h:nx a l=.ok t):0<tl l/\t.text=l.take (tl l)/\t.at_=a:=by
 cases l with
 |nil=>simp[nx]at h
 |cons c r=>
  unfold nx at h;simp only[]at h;by_cases h0:tl (c::r)=0
  ·rw[if_pos h0]at h;cases h
  ·rw[if_neg h0]at h
   refine⟨by omega,?_⟩;by_cases h1:cl c=1
   ·rw[if_pos h1]at h
    by_cases h2:tl (c::r)>16
    ·rw[if_pos h2]at h;cases h
    ·rw[if_neg h2]at h;cases h;exact⟨rfl,rfl⟩
   ·rw[if_neg h1]at h
    by_cases h2:cl c=2
    ·rw[if_pos h2]at h
     by_cases h3:dv 0 ((c::r).take (tl (c::r)))>1099511627776
     ·rw[if_pos h3]at h;cases h
     ·rw[if_neg h3]at h;cases h;exact⟨rfl,rfl⟩
    ·rw[if_neg h2]at h;cases h;exact⟨rfl,rfl⟩
def qQp(N:Nat):Nat->Bs->Except (Nat×Int) (List Tok)
 |0,_=> .ok []
 |f+1,l=>
  match sk false l with
  |[]=> .ok []
  |c::r=>
   match nx (N-(c::r).length) (c::r)with
   |.error e=> .error (N-(c::r).length,e)
   |.ok t=>
    match qQp N f ((c::r).drop (tl (c::r)))with
    |.error x=> .error x
    |.ok ts=> .ok (t::ts)
def lx(N:Nat)(l:Bs):Except (Nat×Int) (List Tok):=qQp N (l.length+1) l
theorem qIG(N:Nat):∀(f g:Nat) (l:Bs),l.length<f->l.length<g->qQp N f l=qQp N g l
 |0,_,_,h,_=>by omega
 |_,0,_,_,h=>by omega
 |f+1,g+1,l,hf,hg=>by
  rw[qQp,qQp];cases hs:sk false l with
  |nil=>rfl
  |cons c r=>
   simp only[];cases hn:nx (N-(c::r).length) (c::r)with
   |error e=>rfl
   |ok t=>
    simp only[];have h0:=(qM1 hn).1;have hlen:(c::r).length<=l.length:=by rw[<-hs];exact qIg _ _
    have hd:((c::r).drop (tl (c::r))).length<l.length:=by
     rw[List.length_drop];have:0<(c::r).length:=by simp
     omega
    rw[qIG N f g _ (by omega) (by omega)]
theorem qLF(N:Nat)(l:Bs):lx N l=match sk false l with
 |[]=> .ok []
 |c::r=>
  match nx (N-(c::r).length) (c::r)with
  |.error e=> .error (N-(c::r).length,e)
  |.ok t=>
   match lx N ((c::r).drop (tl (c::r)))with
   |.error x=> .error x
   |.ok ts=> .ok (t::ts):=by
 rw[lx,qQp];cases hs:sk false l with
 |nil=>rfl
 |cons c r=>
  simp only[];cases hn:nx (N-(c::r).length) (c::r)with
  |error e=>rfl
  |ok t=>
   simp only[];have h0:=(qM1 hn).1;have hlen:(c::r).length<=l.length:=by rw[<-hs];exact qIg _ _
   have hd:((c::r).drop (tl (c::r))).length<l.length:=by
    rw[List.length_drop];have:0<(c::r).length:=by simp
    omega
   rw[lx,qIG N l.length (((c::r).drop (tl (c::r))).length+1) _ hd (by omega)]
theorem qSd(N:Nat)(cm:Bool)(l:Bs):lx N (sk cm l)=match sk cm l with
 |[]=> .ok []
 |c::r=>
  match nx (N-(c::r).length) (c::r)with
  |.error e=> .error (N-(c::r).length,e)
  |.ok t=>
   match lx N ((c::r).drop (tl (c::r)))with
   |.error x=> .error x
   |.ok ts=> .ok (t::ts):=by
 rw[qLF,qED]
theorem qHF(N:Nat)(l:Bs):lx N (sk false l)=lx N l:=by
 rw[qSd,<-qLF]
theorem qID(N:Nat):∀(n:Nat) (l:Bs) (ts:List Tok),l.length<=n->lx N l=.ok ts->ts.length<=l.length
 |n,l,ts,hn,h=>by
  rw[qLF]at h;cases hs:sk false l with
  |nil=>rw[hs]at h;cases h;simp
  |cons c r=>
   rw[hs]at h;simp only[]at h;cases hx:nx (N-(c::r).length) (c::r)with
   |error e=>rw[hx]at h;cases h
   |ok t=>
    rw[hx]at h;simp only[]at h;have h0:=(qM1 hx).1;have hle:(c::r).length<=l.length:=by rw[<-hs];exact qIg _ _
    have hd:((c::r).drop (tl (c::r))).length<l.length:=by
     rw[List.length_drop];have:0<(c::r).length:=by simp
     omega
    cases hy:lx N ((c::r).drop (tl (c::r)))with
    |error e=>rw[hy]at h;cases h
    |ok us=>
     rw[hy]at h;cases h
     match n,hn with
     |0,hn=>omega
     |m+1,hn=>
      have:=qID N m _ us (by omega) hy;simp only[List.length_cons]at *;omega
theorem qOD{a:Nat}{l:Bs}{e:Int}(h:nx a l=.error e):e=2\/e=4:=by
 cases l with
 |nil=>simp[nx]at h;exact .inl h.symm
 |cons c r=>
  unfold nx at h;simp only[]at h;by_cases h0:tl (c::r)=0
  ·rw[if_pos h0]at h;cases h;exact .inl rfl
  ·rw[if_neg h0]at h
   by_cases h1:cl c=1
   ·rw[if_pos h1]at h
    by_cases h2:tl (c::r)>16
    ·rw[if_pos h2]at h;cases h;exact .inr rfl
    ·rw[if_neg h2]at h;cases h
   ·rw[if_neg h1]at h
    by_cases h2:cl c=2
    ·rw[if_pos h2]at h
     by_cases h3:dv 0 ((c::r).take (tl (c::r)))>1099511627776
     ·rw[if_pos h3]at h;cases h;exact .inr rfl
     ·rw[if_neg h3]at h;cases h
    ·rw[if_neg h2]at h;cases h
theorem qPD(N:Nat):∀(n:Nat) (l:Bs) (k:Nat) (e:Int),l.length<=n->lx N l=.error (k,e)->(e=2\/e=4)/\(l.length<=N->N-l.length<=k/\k<N)
 |n,l,k,e,hn,h=>by
  rw[qLF]at h;cases hs:sk false l with
  |nil=>rw[hs]at h;cases h
  |cons c r=>
   rw[hs]at h;simp only[]at h;have hle:(c::r).length<=l.length:=by rw[<-hs];exact qIg _ _
   have hpos:0<(c::r).length:=by simp
   cases hx:nx (N-(c::r).length) (c::r)with
   |error e'=>rw[hx]at h;cases h;exact⟨qOD hx,fun h=>by omega⟩
   |ok t=>
    rw[hx]at h;simp only[]at h;have h0:=(qM1 hx).1;have hd:((c::r).drop (tl (c::r))).length<l.length:=by
     rw[List.length_drop];omega
    cases hy:lx N ((c::r).drop (tl (c::r)))with
    |ok us=>rw[hy]at h;cases h
    |error x=>
     rw[hy]at h;cases h
     match n,hn with
     |0,hn=>omega
     |m+1,hn=>
      have:=qPD N m _ k e (by omega) hy;exact⟨this.1,fun h=>by have:=this.2 (by omega);omega⟩
theorem qN4(c:Int)(w:World)(h0:0<=c)(h1:c<=255):
 Calls Tryz.prog 193 #[.int .u8 c] w fun e w'=>e=.returned (.int .i64 (cls c))/\w=w':=by
 go_enter Tryz.func193,Tryz.ntmps193
 go_wp2
 all_goals (go_ret;exact⟨qAI (by first|(simp_all [cls];done)|(simp_all [cls];omega)),rfl⟩)
theorem qAG(c:UInt8)(w:World):
 Calls Tryz.prog 193 #[.int .u8 c.toNat] w fun e w'=>e=.returned (.int .i64 (cl c))/\w=w':=
 qN4 c.toNat w (by omega) (by have:=UInt8.toNat_lt c;omega)
theorem qAF(s:ByteArray)(k:Nat)(h:k<s.size):s.data.toList.drop k=s[k]::s.data.toList.drop (k+1):=by
 rw[List.drop_eq_getElem_cons (by simpa using h)];rfl
theorem qCS(s:ByteArray)(k:Nat)(h:s.size<=k):s.data.toList.drop k=[]:=by
 rw[List.drop_eq_nil_iff];simpa using h
def qDH(s:ByteArray)(cm:Bool)(k:Nat):Nat:=s.size-(sk cm (s.data.toList.drop k)).length
theorem qHl(s:ByteArray)(cm:Bool)(k:Nat):qDH s cm k<=s.size:=by unfold qDH;omega
theorem qDa(s:ByteArray)(cm:Bool)(k:Nat)(h:k<=s.size)(hh:sk cm (s.data.toList.drop k)=s.data.toList.drop k):qDH s cm k=k:=by
 unfold qDH;rw[hh,List.length_drop];have:s.data.toList.length=s.size:=by simp
 omega
theorem qBR(s:ByteArray)(cm:Bool)(k:Nat):s.data.toList.drop (qDH s cm k)=sk cm (s.data.toList.drop k):=by
 have hl:s.data.toList.length=s.size:=by simp
 obtain⟨p,hp⟩:=qD9 cm (s.data.toList.drop k);have h2:sk cm (s.data.toList.drop k) <:+s.data.toList:=(qD9 _ _).trans (List.drop_suffix _ _);obtain⟨q,hq⟩:=h2;have h3:qDH s cm k=q.length:=by
  unfold qDH;have:=congrArg List.length hq;simp only[List.length_append]at this;omega
 rw[h3]
 conv=>lhs;arg 2;rw[<-hq]
 simp
theorem qEa(s:ByteArray)(cm:Bool)(k:Nat)(h:k<s.size)(hg:¬(nc cm s[k]=false/\cl s[k]≠0)):qDH s cm k=qDH s (nc cm s[k]) (k+1):=by
 unfold qDH;rw[qAF s k h,qCJ,if_neg hg]
theorem qIh(s:ByteArray)(cm:Bool)(k:Nat)(h:k<s.size)(hg:nc cm s[k]=false/\cl s[k]≠0):qDH s cm k=k:=
 qDa s cm k (by omega) (by rw[qAF s k h,qCJ,if_pos hg])
theorem qDt(b:Bool)(c:UInt8)(x y:Bool)(h35:(((c.toNat:Nat):Int)==35)=x)(h10:(((c.toNat:Nat):Int)==10)=y):
 nc b c=(if y then false else if x then true else b):=by
 subst h35;subst h10;unfold nc;by_cases h1:c.toNat=10
 ·simp[h1]
 ·by_cases h2:c.toNat=35
  ·simp[h2]
  ·have e1:(((c.toNat:Nat):Int)==10)=false:=by simp;omega
   have e2:(((c.toNat:Nat):Int)==35)=false:=by simp;omega
   simp[h1,h2,e1,e2]
theorem qCy(s:ByteArray)(k0:Nat)(w:World)(hs:s.size<=4611686018427387904)(hk0:k0<=s.size):
 Calls Tryz.prog 191 #[.string s,.int .i64 k0] w fun e w'=>e=.returned (.int .i64 (qDH s false k0))/\w=w':=by
 go_enter Tryz.func191,Tryz.ntmps191
 go_wp2
 go_loop [1,5] (fun i c=>∃(k:Nat) (b:Bool),k<=s.size/\i=.int .i64 k/\c=.bool b/\Hid (qDH s b k=qDH s false k0)) (fun i _=>s.size-(intOf i).toNat)
 case atStart=>exact⟨k0,false,hk0,rfl,rfl,rfl⟩
 case round=>
  obtain⟨k,b,hk,rfl,rfl,hI⟩:=hrel;by_cases hlt:k<s.size
  ·go_wp2_with (go_at_call 193;refine(qAG _ _).mono ?_;rintro e w' ⟨rfl,rfl⟩)
   ·go_round
    case rel=>
     have e:=qDt b s[k] _ _ (by assumption) (by assumption);exact⟨k+1,true,by omega,by go_num,rfl,by rw[<-hI.o,qEa s b k hlt (by rw[e];simp),e];rfl⟩
    case measure=>simp[intOf];omega
   ·have e:=qDt b s[k] false true (by assumption) (by assumption)
    have hc:(cl s[k] != 0)=true:=by assumption
    go_ret;exact⟨qAI (by rw[<-hI.o,qIh s b k hlt (by rw[e];simpa using hc)]),rfl⟩
   ·have e:=qDt b s[k] false true (by assumption) (by assumption)
    have hc:(cl s[k] != 0)=false:=by assumption
    go_round
    case rel=>exact⟨k+1,false,by omega,by go_num,rfl,by rw[<-hI.o,qEa s b k hlt (by simp at hc;simp[hc]),e];rfl⟩
    case measure=>simp[intOf];omega
   ·have e:=qDt b s[k] false false (by assumption) (by assumption)
    have hb:b=true:=by assumption
    go_round
    case rel=>exact⟨k+1,true,by omega,by go_num,by simp,hZ (by rw[<-hI.o,qEa s b k hlt (by rw[e];simp[hb]),e];simp[hb])⟩
    case measure=>simp[intOf];omega
   ·have e:=qDt b s[k] false false (by assumption) (by assumption)
    have hb:¬b=true:=by assumption
    have hc:(cl s[k] != 0)=true:=by assumption
    go_ret;exact⟨qAI (by rw[<-hI.o,qIh s b k hlt (by rw[e];simp at hc hb;simp[hb,hc])]),rfl⟩
   ·have e:=qDt b s[k] false false (by assumption) (by assumption)
    have hb:¬b=true:=by assumption
    have hc:(cl s[k] != 0)=false:=by assumption
    go_round
    case rel=>exact⟨k+1,false,by omega,by go_num,by simp,hZ (by rw[<-hI.o,qEa s b k hlt (by simp at hc;simp[hc]),e];simp at hb;simp[hb])⟩
    case measure=>simp[intOf];omega
  ·go_wp2
   go_ret;exact⟨qAI (by rw[<-hI.o,qDa s b k hk (by rw[qCS s k (by omega)];rfl)]),rfl⟩
def run(p:UInt8->Bool)(s:ByteArray)(k:Nat):Nat:=k+((s.data.toList.drop k).takeWhile p).length
theorem qMG(p:UInt8->Bool)(s:ByteArray)(k:Nat)(h:k<=s.size):run p s k<=s.size:=by
 unfold run;have h1:=(List.takeWhile_sublist p (l:=s.data.toList.drop k)).length_le;have hl:s.data.toList.length=s.size:=by simp
 rw[List.length_drop]at h1;omega
theorem qRo(p:UInt8->Bool)(s:ByteArray)(k:Nat):k<=run p s k:=by unfold run;omega
theorem qCL(p:UInt8->Bool)(s:ByteArray)(k:Nat)(h:k<s.size)(hp:p s[k]=true):run p s k=run p s (k+1):=by
 unfold run;rw[qAF s k h,List.takeWhile_cons,if_pos hp,List.length_cons];omega
theorem qCK(p:UInt8->Bool)(s:ByteArray)(k:Nat)(h:k<s.size)(hp:p s[k]=false):run p s k=k:=by
 unfold run;rw[qAF s k h,List.takeWhile_cons,if_neg (by simp[hp])];simp
theorem qHo(p:UInt8->Bool)(s:ByteArray)(k:Nat)(h:s.size<=k):run p s k=k:=by
 unfold run;rw[qCS s k h];simp
def qAh(s:ByteArray)(k:Nat):Nat:=k+tl (s.data.toList.drop k)
theorem qG5(s:ByteArray)(k:Nat)(h:k<s.size)(h1:cl s[k]=1):qAh s k=run wb s (k+1):=by
 unfold qAh run;rw[qAF s k h,tl,if_pos h1];omega
theorem qDh(s:ByteArray)(k:Nat)(h:k<s.size)(h1:cl s[k]=2):qAh s k=run db s (k+1):=by
 unfold qAh run;rw[qAF s k h,tl,if_neg (by omega),if_pos h1];omega
theorem qDg(s:ByteArray)(k:Nat)(h:k<s.size)(h1:cl s[k]=4):qAh s k=k+1:=by
 unfold qAh;rw[qAF s k h,tl,if_neg (by omega),if_neg (by omega),if_pos h1]
theorem qF9(s:ByteArray)(k:Nat)(h:k<s.size)(h1:cl s[k]≠1)(h2:cl s[k]≠2)(h4:cl s[k]≠4)(h6:cl s[k]≠6):qAh s k=k:=by
 unfold qAh;rw[qAF s k h,tl,if_neg h1,if_neg h2,if_neg h4,if_neg h6];omega
theorem qGb(s:ByteArray)(k:Nat)(h:k+1<s.size)(h1:cl s[k]=6)(h2:s[k+1].toNat=62):qAh s k=k+2:=by
 unfold qAh;rw[qAF s k (by omega),qAF s (k+1) h,tl,if_neg (by omega),if_neg (by omega),if_neg (by omega),if_pos h1,if_pos];simp[<-UInt8.toNat_inj,h2]
theorem qGa(s:ByteArray)(k:Nat)(h:k+1<s.size)(h1:cl s[k]=6)(h2:¬s[k+1].toNat=62):qAh s k=k:=by
 unfold qAh;rw[qAF s k (by omega),qAF s (k+1) h,tl,if_neg (by omega),if_neg (by omega),if_neg (by omega),if_pos h1,if_neg]
 ·omega
 ·simp[<-UInt8.toNat_inj,h2]
theorem qDi(s:ByteArray)(k:Nat)(h0:k<s.size)(h:s.size<=k+1)(h1:cl s[k]=6):qAh s k=k:=by
 unfold qAh;rw[qAF s k h0,qCS s (k+1) h,tl,if_neg (by omega),if_neg (by omega),if_neg (by omega),if_pos h1,if_neg (by simp)];omega
theorem qPU(c:UInt8)(h1:1<=cl c)(h2:cl c<=3):wb c=true:=by simp[wb,h1,h2]
theorem qKs(c:UInt8)(h:cl c<1\/3<cl c):wb c=false:=by simp only[wb,Bool.and_eq_false_iff,decide_eq_false_iff_not];omega
theorem qDq(s:ByteArray)(k0:Nat)(w:World)(hs:s.size<=4611686018427387904)(hk0:k0<s.size):
 Calls Tryz.prog 192 #[.string s,.int .i64 k0] w fun e w'=>e=.returned (.int .i64 (qAh s k0))/\w=w':=by
 have hr:=qB0 s[k0];by_cases h1:cl s[k0]=1
 ·have hI0:Hid (run wb s (k0+1)=qAh s k0):=hZ (qG5 s k0 hk0 h1).symm
  have hb1:(cl s[k0]==1)=true:=by simp[h1]
  clear h1
  go_enter Tryz.func192,Tryz.ntmps192
  go_wp2_with (go_at_call 193;refine(qAG _ _).mono ?_;rintro e w' ⟨rfl,rfl⟩)
  go_loop [5] (fun i=>∃(k:Nat),k<=s.size/\i=.int .i64 k/\Hid (run wb s k=qAh s k0)) (fun i=>s.size-(intOf i).toNat)
  case atStart=>exact⟨k0+1,by omega,by go_num,hI0⟩
  case round=>
   obtain⟨k,hk,rfl,hI⟩:=hrel;by_cases hlt:k<s.size
   ·go_wp2_with (go_at_call 193;refine(qAG _ _).mono ?_;rintro e w' ⟨rfl,rfl⟩)
    ·have q1:1<=cl s[k]:=by assumption
     have q2:cl s[k]<=3:=by assumption
     go_round
     case rel=>exact⟨k+1,by omega,by go_num,hZ (by rw[<-qCL wb s k hlt (qPU _ q1 q2),hI.o])⟩
     case measure=>simp[intOf];omega
    ·have q2:3<cl s[k]:=by assumption
     go_ret;exact⟨qAI (by rw[<-hI.o,qCK wb s k hlt (qKs _ (.inr q2))]),rfl⟩
    ·have q2:cl s[k]<1:=by assumption
     go_ret;exact⟨qAI (by rw[<-hI.o,qCK wb s k hlt (qKs _ (.inl q2))]),rfl⟩
   ·go_wp2_with (go_at_call 193;refine(qAG _ _).mono ?_;rintro e w' ⟨rfl,rfl⟩)
    go_ret;exact⟨qAI (by rw[<-hI.o,qHo wb s k (by omega)]),rfl⟩
 ·have hb1:(cl s[k0]==1)=false:=by simp[h1]
  by_cases h2:cl s[k0]=2
  ·have hI0:Hid (run db s (k0+1)=qAh s k0):=hZ (qDh s k0 hk0 h2).symm
   have hb2:(cl s[k0]==2)=true:=by simp[h2]
   clear h1 h2
   go_enter Tryz.func192,Tryz.ntmps192
   go_wp2_with (go_at_call 193;refine(qAG _ _).mono ?_;rintro e w' ⟨rfl,rfl⟩)
   go_loop [5] (fun i=>∃(k:Nat),k<=s.size/\i=.int .i64 k/\Hid (run db s k=qAh s k0)) (fun i=>s.size-(intOf i).toNat)
   case atStart=>exact⟨k0+1,by omega,by go_num,hI0⟩
   case round=>
    obtain⟨k,hk,rfl,hI⟩:=hrel;by_cases hlt:k<s.size
    ·go_wp2_with (go_at_call 193;refine(qAG _ _).mono ?_;rintro e w' ⟨rfl,rfl⟩)
     ·have q1:(cl s[k]==2)=true:=by assumption
      go_round
      case rel=>exact⟨k+1,by omega,by go_num,hZ (by rw[<-qCL db s k hlt (by simpa[db]using q1),hI.o])⟩
      case measure=>simp[intOf];omega
     ·have q2:(cl s[k]==2)=false:=by assumption
      go_ret;exact⟨qAI (by rw[<-hI.o,qCK db s k hlt (by simpa[db]using q2)]),rfl⟩
    ·go_wp2_with (go_at_call 193;refine(qAG _ _).mono ?_;rintro e w' ⟨rfl,rfl⟩)
     go_ret;exact⟨qAI (by rw[<-hI.o,qHo db s k (by omega)]),rfl⟩
  ·have hb2:(cl s[k0]==2)=false:=by simp[h2]
   by_cases h4:cl s[k0]=4
   ·have hb4:(cl s[k0]==4)=true:=by simp[h4]
    have hE:=hZ (qDg s k0 hk0 h4);clear h1 h2 h4
    go_enter Tryz.func192,Tryz.ntmps192
    go_wp2_with (go_at_call 193;refine(qAG _ _).mono ?_;rintro e w' ⟨rfl,rfl⟩)
    go_ret;exact⟨qAI (by rw[hE.o];omega),rfl⟩
   ·have hb4:(cl s[k0]==4)=false:=by simp[h4]
    by_cases h6:cl s[k0]=6
    ·have hb6:(cl s[k0]==6)=true:=by simp[h6]
     by_cases hlt:k0+1<s.size
     ·by_cases hq:s[k0+1].toNat=62
      ·have hE:=hZ (qGb s k0 hlt h6 hq)
       have hq':((s[k0+1].toNat:Int)==62)=true:=by simp[hq]
       clear h1 h2 h4 h6 hq
       go_enter Tryz.func192,Tryz.ntmps192
       go_wp2_with (go_at_call 193;refine(qAG _ _).mono ?_;rintro e w' ⟨rfl,rfl⟩)
       go_ret;exact⟨qAI (by rw[hE.o];omega),rfl⟩
      ·have hE:=hZ (qGa s k0 hlt h6 hq)
       have hq':((s[k0+1].toNat:Int)==62)=false:=by simp;omega
       clear h1 h2 h4 h6 hq
       go_enter Tryz.func192,Tryz.ntmps192
       go_wp2_with (go_at_call 193;refine(qAG _ _).mono ?_;rintro e w' ⟨rfl,rfl⟩)
       go_ret;exact⟨qAI (by rw[hE.o]),rfl⟩
     ·have hE:=hZ (qDi s k0 hk0 (by omega) h6)
      clear h1 h2 h4 h6
      go_enter Tryz.func192,Tryz.ntmps192
      go_wp2_with (go_at_call 193;refine(qAG _ _).mono ?_;rintro e w' ⟨rfl,rfl⟩)
      go_ret;exact⟨qAI (by rw[hE.o]),rfl⟩
    ·have hb6:(cl s[k0]==6)=false:=by simp[h6]
     have hE:=hZ (qF9 s k0 hk0 h1 h2 h4 h6);clear h1 h2 h4 h6
     go_enter Tryz.func192,Tryz.ntmps192
     go_wp2_with (go_at_call 193;refine(qAG _ _).mono ?_;rintro e w' ⟨rfl,rfl⟩)
     go_ret;exact⟨qAI (by rw[hE.o]),rfl⟩
theorem qOK(n d M:Nat)(hM:0<M):min (10*min n M+d) M=min (10*n+d) M:=by omega
def qPI(l:Bs):Nat:=min (dv 0 l) 1099511627777
theorem qLm(s:ByteArray)(k:Nat)(h:k<s.size):s.data.toList.take (k+1)=s.data.toList.take k++[s[k]]:=by
 rw[List.take_succ_eq_append_getElem (by simpa using h)];rfl
theorem qNP(s:ByteArray)(k:Nat)(h:k<s.size):min (10*qPI (s.data.toList.take k)+dg s[k]) 1099511627777=qPI (s.data.toList.take (k+1)):=by
 unfold qPI;rw[qLm s k h,qNN,qOK _ _ _ (by omega)]
theorem qMk(s:ByteArray)(w:World)(hs:s.size<=4611686018427387904)(hd:∀k (h:k<s.size),48<=s[k].toNat/\s[k].toNat<=57):
 Calls Tryz.prog 194 #[.string s] w fun e w'=>e=.returned (.int .i64 (qPI s.data.toList))/\w=w':=by
 have Hd:=hZ hd;clear hd
 go_enter Tryz.func194,Tryz.ntmps194
 go_wp2
 go_loop [3,4] (fun n i=>∃(k:Nat),k<=s.size/\i=.int .i64 k/\n=.int .i64 (qPI (s.data.toList.take k))) (fun _ i=>s.size-(intOf i).toNat)
 case atStart=>exact⟨0,by omega,rfl,rfl⟩
 case round=>
  obtain⟨k,hk,rfl,rfl⟩:=hrel;by_cases hlt:k<s.size
  ·have hb:=Hd.o k hlt
   have hstep:=hZ (qNP s k hlt);have hle:qPI (s.data.toList.take k)<=1099511627777:=by unfold qPI;omega
   generalize qPI (s.data.toList.take k)=n at *
   go_wp2
   go_round
   case rel=>
    refine⟨k+1,by omega,by go_num,?_⟩;rw[<-hstep.o];rw[qRL];exact congrArg (Value.int IntKind.i64) (by first|(split<;>omega)|omega)
   case measure=>simp[intOf];omega
  ·go_wp2
   go_ret;exact⟨qAI (by rw[List.take_of_length_le (by simp;omega)]),rfl⟩
end Go.Proofs.YtkjhlkngihponaaGreatDoor
