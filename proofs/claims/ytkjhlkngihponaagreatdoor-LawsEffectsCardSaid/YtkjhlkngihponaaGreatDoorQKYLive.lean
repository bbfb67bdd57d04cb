/- lives: the example of the section on laws. -/
import Derived.Test.YtkjhlkngihponaaGreatDoorQKWString
import Derived.Test.YtkjhlkngihponaaGreatDoorQKGGen
import Derived.Test.YtkjhlkngihponaaGreatDoorQKLRow
import Derived.Shelf.Strings.BuilderK
import Derived.Deep.CutRange
import Derived.Deep.CutBlock
import Derived.Test.YtkjhlkngihponaaGreatDoorQKWDivide
import Derived.Test.YtkjhlkngihponaaGreatDoorQKYLBas
set_option linter.unusedVariables false
set_option linter.unusedSimpArgs false
set_option maxHeartbeats 8000000
set_option maxRecDepth 100000
namespace Go.Proofs.YtkjhlkngihponaaGreatDoor
open Go.RowKit
abbrev qGt(B b:Nat)(t:Tx)(w:World):Prop:=Lib.IsBuilderF 97 5 B b (Lib.byteCells t) w
theorem qBK(B b:Nat)(t:Tx)(s:Tx)(w:World)(h:qGt B b t w)(hlen:t.length+s.length<=100000000)(hBw:B<=w.heap.size):
 Calls Tryz.prog 63 #[.pointer (some ⟨b,0,none⟩),.string ⟨s.toArray⟩] w fun e w'=>(∃v,e=.returned v)/\qGt B b (t++s) w'/\Below B w w'/\Lib.OthersKept 5 (some b) w w':=by
 refine(Any.Builder_WriteString_k qNn qHe B b (Lib.byteCells t) ⟨s.toArray⟩ w h (by rw[Lib.byteCells,List.length_map];show t.length+s.toArray.size<=_;simp;omega) hBw).mono ?_;rintro e w' ⟨rfl,h1,h2,h3⟩;refine⟨⟨_,rfl⟩,.inr ?_,h2,h3⟩;have h2:Lib.BuilderAtF 97 5 B b (.pointer (some ⟨b,0,none⟩)) (Lib.byteCells t++Lib.byteCells s) w':=h1;rw[show Lib.byteCells (t++s)=Lib.byteCells t++Lib.byteCells s by simp[Lib.byteCells]];exact h2
theorem qGt.blk{B b:Nat}{t:Tx}{w:World}(h:qGt B b t w):B<=b/\∃cs fz,w.heap[b]? =some (.cells cs 97 fz):=by
 rcases h with ⟨h1,v,h2,_⟩|⟨h1,v,h2,_⟩<;>exact⟨h1,_,_,h2⟩
theorem qGt.only{S:Nat->Prop}{B b:Nat}{t:Tx}{w w':World}(h:qGt B b t w)(ho:qAc S w w')(hS:∀g cs fz,w.heap[g]? =some (.cells cs 5 fz)->¬S g)(hb:¬S b):qGt B b t w':=by
 have key:∀p,Lib.BuilderAtF 97 5 B b p (Lib.byteCells t) w->Lib.BuilderAtF 97 5 B b p (Lib.byteCells t) w':=by
  rintro p ⟨h1,v,h2,⟨hl,ho9⟩,h4⟩;refine⟨h1,v,(ho.block _ (Array.getElem?_eq_some_iff.1 h2).1 hb).trans h2,⟨hl,?_⟩,h4⟩;rcases ho9 with ho9|⟨g,cap,cur,fz,hv,hg,hh,hr⟩
  ·exact .inl ho9
  ·exact .inr ⟨g,cap,cur,fz,hv,hg,(ho.block _ (Array.getElem?_eq_some_iff.1 hh).1 (hS g cur fz hh)).trans hh,hr⟩
 rcases h with h|h
 ·exact .inl (key _ h)
 ·exact .inr (key _ h)
theorem qGt.blw{B b:Nat}{t:Tx}{w w':World}(h:qGt B b t w)(hB:Below w.heap.size w w'):qGt B b t w':=h.only (S:=fun _=>False) (qAc.of_below hB) (fun _ _ _ _ h=>h) (fun h=>h)
instance {B b:Nat} {t:Tx} {w w':World}:Mv w w' (qGt B b t w) (qGt B b t w'):=⟨fun hb h=>qGt.blw h hb⟩
theorem qHI{b g:Nat}{w w':World}{cs:Array Value}{t:TypeId}{fz:Nat×Nat}(hk:Lib.OthersKept 5 (some b) w w')(h:w.heap[g]? =some (.cells cs t fz))(ht:t≠5)(hg:g≠b):w'.heap[g]? =some (.cells cs t fz):=
 hk g _ h (by simpa using hg) (fun c f e=>by injection e with _ e _;exact ht e)
structure qL6(w0 W:World)(B bb g:Nat)(t:Tx)(z:Int):Prop where
 bel:Below B w0 W
 bld:qGt B bb t W
 box:∃s a n c,Two W g 73 (.bool s) (.slice a n c)/\qAr W (.agg #[.bool s,.slice a n c]) z/\qL5 W (.slice a n c)
theorem qL6.write{w0 W W':World}{B bb g:Nat}{t s:Tx}{z:Int}(h:qL6 w0 W B bb g t z)(h0:B=w0.heap.size)(hb:qGt B bb (t++s) W')(hB:Below B W W')(hk:Lib.OthersKept 5 (some bb) W W'):qL6 w0 W' B bb g (t++s) z:=by
 obtain⟨s9,a,n,c,h1,h2,h3⟩:=h.box;obtain⟨hbb,cs,fz,hcs⟩:=h.bld.blk;have hg:g≠bb:=fun e=>by subst e;unfold Two at h1;rw[h1]at hcs;injection hcs with hcs;injection hcs with _ hcs _;exact absurd hcs (by decide)
 refine⟨h.bel.trans (hB.mono (by omega)),hb,s9,a,n,c,qHI hk h1 (by decide) hg,?_,?_⟩
 ·obtain⟨vw,hv,a',c',rfl,k1,k2,k3⟩:=h2
  refine⟨_,hv,a',c',rfl,k1,k2,fun h0=> ?_⟩;obtain⟨g',o,rfl,hl,hc⟩:=k3 h0;injection hv with hv;injection hv with hv;injection hv with _ hv;injection hv with hv _;injection hv with e1 e2 e3;subst e1;obtain⟨cs',fz',h4⟩:=h3 g' o n c rfl;have hgb:g'≠bb:=fun e=>by subst e;rw[h4]at hcs;injection hcs with hcs;injection hcs with _ hcs _;exact absurd hcs (by decide)
  have h5:=qHI hk h4 (by decide) hgb;refine⟨g',o,rfl,(Array.getElem?_eq_some_iff.1 h5).1,fun j hj=> ?_⟩;rw[World.cell?_of_block (w:=W) (h5.trans h4.symm)];exact hc j hj
 ·intro g' o n' c' e
  obtain⟨cs',fz',h4⟩:=h3 g' o n' c' e;have hgb:g'≠bb:=fun e=>by subst e;rw[h4]at hcs;injection hcs with hcs;injection hcs with _ hcs _;exact absurd hcs (by decide)
  exact⟨cs',fz',qHI hk h4 (by decide) hgb⟩
theorem qL6.blw{w0 W W':World}{B bb g:Nat}{t:Tx}{z:Int}(h:qL6 w0 W B bb g t z)(h0:B=w0.heap.size)(hB:Below W.heap.size W W'):qL6 w0 W' B bb g t z:=by
 obtain⟨s9,a,n,c,h1,h2,h3⟩:=h.box;exact⟨h.bel.trans (hB.mono (by have:=h.bel.size;omega)),h.bld.blw hB,s9,a,n,c,h1.below hB h1.lt,h2.below hB,h3.below hB⟩
theorem qL6.put{w0 W:World}{B bb g:Nat}{t:Tx}{z z':Int}(h:qL6 w0 W B bb g t z)(h0:B=w0.heap.size)(hg:B<=g){s:Bool}{a:Option Addr}{n c:Nat}(hv:qAr W (.agg #[.bool s,.slice a n c]) z')(ht:qL5 W (.slice a n c)):qL6 w0 ((W.setCell ⟨g,0,none⟩ (.bool s)).setCell ⟨g,1,none⟩ (.slice a n c)) B bb g t z':=by
 obtain⟨s9,a9,n9,c9,h1,h2,h3⟩:=h.box;have ho:qAc (fun b=>b=g) W ((W.setCell ⟨g,0,none⟩ (.bool s)).setCell ⟨g,1,none⟩ (.slice a n c)):=((qAc.refl (fun b=>b=g) W).set (p:=⟨g,0,none⟩) rfl _).set (p:=⟨g,1,none⟩) rfl _;obtain⟨hbb,cs,fz,hcs⟩:=h.bld.blk;refine⟨ho.below h.bel (by have:=h.bel.size;omega) (fun k e=>by omega),h.bld.only ho (fun g' cs' fz' h9 e=> ?_) (fun e=> ?_),s,a,n,c,h1.set0 _ _,?_,ht.far2 h1 (by decide) _ _⟩
 ·subst e;unfold Two at h1;rw[h1]at h9;injection h9 with h9;injection h9 with _ h9 _;exact absurd h9 (by decide)
 ·subst e;unfold Two at h1;rw[h1]at hcs;injection hcs with hcs;injection hcs with _ hcs _;exact absurd hcs (by decide)
 ·obtain⟨vw,hv1,hm⟩:=hv
  exact⟨vw,hv1,qAd.store_two hm h1 (fun _ _ h=>by cases h) (fun _ _ h=>by cases h) _ _⟩
structure qSm(w0:World)(B bb bc:Nat)(vw:Value)(ws:List Int)(vi vr:Value)(N:List Tx):Prop where
 h0:B=w0.heap.size
 hw:qAg w0 vw ws
 h64:B64 ws
 len:ws.length=N.length
 n6:N.length<=6
 nl:∀n∈N,n.length<=1000
 it:qAL w0 vi N
 bx:qBw w0 bc vi vr
 pow:qC1 w0
theorem qOQ(w0 w:World)(B bb bc:Nat)(vw:Value)(ws:List Int)(vi vr:Value)(N:List Tx)(acc:Tx)(hE:qSm w0 B bb bc vw ws vi vr N)(hb:qGt B bb acc w)(hB:Below B w0 w)(hacc:acc.length<=1000000):
 Calls Tryz.prog 60 #[vw,.pointer (some ⟨bb,0,none⟩),.pointer (some ⟨bc,0,none⟩)] w fun e w'=>(∃v,e=.returned v)/\qGt B bb (acc++(qLK N ws++[10])) w'/\Below B w0 w':=by
 have HE:=hZ hE;have HBL:=hZ hb;have HB:=hZ hB;have hn6:=hE.n6;obtain⟨aw,cw,rfl,hw1,hw2⟩:=hE.hw.form;obtain⟨ai,ci,rfl,hi1,hi2⟩:=qAb.form hE.it;obtain⟨n,hn⟩:=eX N.length;have Hn:=hZ hn;have hwn:=hE.len;have HWn:=hZ hwn;rw[hn]at hn6 hwn;rw[hwn]at hw1 ⊢;have HWN:=hZ hwn;have HLE:Hid (∀k,k<=n->(lnT N ws k).length<=6600):=hZ (fun k hk=>by have:=qNc hE.nl hE.h64 k;omega);clear hb hB hn hE hwn
 go_enter Tryz.func60,Tryz.ntmps60
 go_wp2_with fail
 go_loopw [10,4] (fun iv ev wr=>∃k:Nat,k<=n/\iv=.int .i64 k/\ev=.bool (decide (lnT N ws k=[]))/\Hid (qGt B bb (acc++lnT N ws k) wr)/\Hid (Below B w0 wr)) (fun iv _ _=>n-(intOf iv).toNat)
 case atStart=>exact⟨0,by omega,rfl,rfl,by simpa[lnT]using HBL,HB⟩
 case round=>
  clear HBL HB;obtain⟨k,hk,rfl,rfl,HBL,HB⟩:=hrel;obtain⟨w1,rfl⟩:=eY wr;by_cases hlt:k<n
  ·have i1:(0:Int)<=(k:Int):=by omega
   have i2:(k:Int)<(n:Int):=by omega
   have hkw:k<ws.length:=by have:=HWN.o;omega
   have hB0:Below w0.heap.size w0 w1:=by rw[<-HE.o.h0];exact HB.o
   obtain⟨b1,cap1,hv1,hb1,y0⟩:=qAg.at_ (HE.o.hw.below hB0) k hkw;injection hv1 with e1 e2 e3;subst e1;clear e2 e3;have hx64:=HE.o.h64.at_ k hkw;have HG:Hid (ws.getD k 0=ws[k]):=hZ (by rw[List.getD_eq_getElem?_getD,List.getElem?_eq_getElem hkw];rfl);obtain⟨x,hx⟩:=eX (ws[k]);rw[hx]at y0 hx64 HG;have HX64:=hZ hx64;clear hx hx64 hB0;obtain⟨t,ht⟩:=eX (lnT N ws k);have HT:=hZ ht;rw[ht]at HBL ⊢;have htl:t.length<=6600:=by rw[<-ht];exact HLE.o k hk
   clear ht;by_cases hx0:x=0
   ·have HZ:Hid (lnT N ws (k+1)=t):=hZ (by rw[qOP (by rw[HG.o,hx0]),HT.o])
    subst hx0
    go_wp2_with fail
    go_roundw
    case rel=>exact⟨k+1,by omega,by go_num,by rw[HZ.o],by rw[HZ.o];exact HBL,HB⟩
    case measure=>simp[intOf];omega
   ·have q0:(x==0)=false:=by simpa using hx0
    have HA:Hid (lnT N ws (k+1)=t++(qMz (decide (t=[])) (decide (x<0))++(dec x.natAbs++32::N.getD k []))):=hZ (by rw[qNd (by rw[HG.o];exact hx0),HT.o,HG.o]);have HNE:Hid (lnT N ws (k+1)≠[]):=hZ (qRx (by rw[HG.o];exact hx0));clear hx0
    go_wp2_with fail
    clear y0 q0;refine(qKR x w1 HX64.o.1 HX64.o.2).mono ?_;rintro e w2 ⟨sb,vr2,rfl,hI2,ht2,hB2⟩;obtain⟨a2,n2,c2,hv2,-⟩:=hI2.form;injection hv2 with hv2;injection hv2 with hv2;injection hv2 with e1 hv2;injection hv2 with e2 _;subst e1 e2;obtain⟨g,hg⟩:=eX w2.heap.size;obtain⟨s2,hs2⟩:=eX (decide (x<0));rw[hs2]at hI2 ⊢;obtain⟨w3,hw3⟩:=eX (w2.alloc (.cells #[.bool s2,.slice a2 n2 c2] 73));have hB3:Below w2.heap.size w2 w3:=by rw[<-hw3];exact aR
    have hBs:=HB.o.size;have hgB:B<=g:=by have:=hB2.size;have:=HE.o.h0;omega
    have HL:Hid (qL6 w0 w3 B bb g (acc++t) x):=hZ ⟨(HB.o.trans (hB2.mono (by have:=HE.o.h0;omega))).trans (hB3.mono (by omega)),(HBL.o.blw hB2).blw hB3,s2,a2,n2,c2,by rw[<-hw3,<-hg];exact Two.new _ _ _ _,hI2.below hB3,ht2.below hB3⟩;clear hs2 hI2 ht2 hB2 hB3 HBL HB hBs
    go_upto_if 20 with fail
    go_cut []from 11 to 53 (fun wc=>Hid (qL6 w0 wc B bb g (acc++t) (x.natAbs:Int)))
    case first=>
     by_cases hx:x<0
     ·have q1:decide (x<0)=true:=decide_eq_true hx
      have HX:=hZ hx;rw[q1];clear hx q1;obtain⟨s9,a9,n9,c9,h1,h2,h3⟩:=HL.o.box;have d0:=h1.cell0;have d1:=h1.cell1;have H2:=hZ h2;clear h1 h2 h3
      try rw[hw3]
      clear hw3
      go_wp2_with fail
      clear d0 d1;refine(qM5 _ x w3 H2.o (qHL x HX64.o)).mono ?_;rintro e w4 ⟨sb,vr4,rfl,hI4,ht4,hB4⟩;obtain⟨a4,n4,c4,hv4,-⟩:=hI4.form;injection hv4 with hv4;injection hv4 with hv4;injection hv4 with e1 hv4;injection hv4 with e2 _;subst e1 e2;obtain⟨s4,hs4⟩:=eX (decide (-x<0));rw[hs4]at hI4 ⊢;replace HL:=hZ (HL.o.blw HE.o.h0 hB4);obtain⟨s8,a8,n8,c8,k1, -,-⟩:=HL.o.box;have d0:=k1.cell0;have d1:=k1.cell1;have f0:=k1.frozen 0;have f1:=k1.frozen 1;obtain⟨w5,hw5⟩:=eX ((w4.setCell ⟨g,0,none⟩ (.bool s4)).setCell ⟨g,1,none⟩ (.slice a4 n4 c4));have hput:=HL.o.put HE.o.h0 hgB hI4 ht4;rw[hw5]at hput;have e9:((x.natAbs:Nat):Int)= -x:=by have:=HX.o;omega
      have HL5:Hid (qL6 w0 w5 B bb g (acc++t) (x.natAbs:Int)):=hZ (by rw[e9];exact hput);clear e9;clear hput hs4 hI4 ht4 hB4 k1
      go_wp2_with fail
      try rw[hw5]
      clear hw5 d0 d1 f0 f1
      go_meet
      case rel=>exact HL5
     ·have q1:decide (x<0)=false:=decide_eq_false hx
      have e9:((x.natAbs:Nat):Int)=x:=by omega
      rw[q1];clear hx q1
      try rw[hw3]
      go_wp2_with fail
      go_meet
      case rel=>rw[e9];exact HL
    case rest=>
     clear HL hw3;obtain⟨w5,rfl⟩:=eY wc;have HL:=hcut;clear hcut
     go_upto_block 2 with fail
     go_cut [4]from 11 to 53 (fun s4 wc=>s4=.bool (decide (t=[]))/\Hid (qL6 w0 wc B bb g (acc++(t++qMz (decide (t=[])) (decide (x<0)))) (x.natAbs:Int)))
     case first=>
      have hle:(acc++t).length<=1006600:=by rw[List.length_append];omega
      by_cases he:t=[]
      ·have q1:decide (t=[])=true:=decide_eq_true he
       rw[q1];by_cases hx:x<0
       ·have q2:decide (x<0)=true:=decide_eq_true hx
        have e1:qMz true true=[45]:=rfl;clear he hx
        go_wp2_with fail
        refine(qBK B bb (acc++t) ([45]) _ HL.o.bld (by first|omega|(simp only[List.length_cons,List.length_nil,List.length_append]at hle ⊢;omega)) (by have:=HL.o.bel.size;have:=HE.o.h0;omega)).mono ?_;rintro e wz ⟨⟨v9,rfl⟩,hb9,hB9,hk9⟩;replace HL:=hZ (HL.o.write HE.o.h0 hb9 hB9 hk9);clear hb9 hB9 hk9
        go_wp2_with fail
        go_meet
        case rel=>exact⟨by rw[q1],by rw[q1,q2,e1,<-List.append_assoc];exact HL⟩
       ·have q2:decide (x<0)=false:=decide_eq_false hx
        have e1:qMz true false=[]:=rfl;clear he hx
        go_wp2_with fail
        go_meet
        case rel=>exact⟨by rw[q1],by rw[q1,q2,e1,List.append_nil];exact HL⟩
      ·have q1:decide (t=[])=false:=decide_eq_false he
       rw[q1];by_cases hx:x<0
       ·have q2:decide (x<0)=true:=decide_eq_true hx
        have e1:qMz false true=[32,45,32]:=rfl;clear he hx
        go_wp2_with fail
        refine(qBK B bb (acc++t) ([32,45,32]) _ HL.o.bld (by first|omega|(simp only[List.length_cons,List.length_nil,List.length_append]at hle ⊢;omega)) (by have:=HL.o.bel.size;have:=HE.o.h0;omega)).mono ?_;rintro e wz ⟨⟨v9,rfl⟩,hb9,hB9,hk9⟩;replace HL:=hZ (HL.o.write HE.o.h0 hb9 hB9 hk9);clear hb9 hB9 hk9
        go_wp2_with fail
        go_meet
        case rel=>exact⟨by rw[q1],by rw[q1,q2,e1,<-List.append_assoc];exact HL⟩
       ·have q2:decide (x<0)=false:=decide_eq_false hx
        have e1:qMz false false=[32,43,32]:=rfl;clear he hx
        go_wp2_with fail
        refine(qBK B bb (acc++t) ([32,43,32]) _ HL.o.bld (by first|omega|(simp only[List.length_cons,List.length_nil,List.length_append]at hle ⊢;omega)) (by have:=HL.o.bel.size;have:=HE.o.h0;omega)).mono ?_;rintro e wz ⟨⟨v9,rfl⟩,hb9,hB9,hk9⟩;replace HL:=hZ (HL.o.write HE.o.h0 hb9 hB9 hk9);clear hb9 hB9 hk9
        go_wp2_with fail
        go_meet
        case rel=>exact⟨by rw[q1],by rw[q1,q2,e1,<-List.append_assoc];exact HL⟩
     case rest=>
      clear HL;obtain⟨w6,rfl⟩:=eY wc;obtain⟨rfl,HL⟩:=hcut;obtain⟨u,hu⟩:=eX (t++qMz (decide (t=[])) (decide (x<0)));have HU:=hZ hu;have hul:u.length<=6603:=by rw[<-hu,List.length_append];have:=qMy (decide (t=[])) (decide (x<0));omega
      rw[hu]at HL;clear hu;have hd20:(dec x.natAbs).length<=20:=qK4 HX64.o;have hB6:Below w0.heap.size w0 w6:=by rw[<-HE.o.h0];exact HL.o.bel
      have hkN:k<N.length:=by have:=Hn.o;omega
      obtain⟨bi,cap,hvi,hbi,hic⟩:=(HE.o.it.below hB6).at_ k hkN;injection hvi with e1 _ e3;subst e1 e3;have HGN:Hid (N.getD k []=N[k]):=hZ (by rw[List.getD_eq_getElem?_getD,List.getElem?_eq_getElem hkN];rfl);have hnm:=HE.o.nl N[k] (List.getElem_mem hkN);have z0:=hic.c0;have hbx:=HE.o.bx.below hB6;have z1:=hbx.c0;obtain⟨nm,hnme⟩:=eX (N[k]);rw[hnme]at hnm z0 HGN;rw[Hn.o]at z1;have HBX:=hZ hbx;have hbi6:=hbi;clear hnme hic hbx;obtain⟨s9,a9,n9,c9,h1,h2,h3⟩:=HL.o.box;have d0:=h1.cell0;have d1:=h1.cell1;have H2:=hZ h2;have hI7:(k:Int)<(n:Int):=by omega
      clear h1 h2 h3;have hpow:=HE.o.pow.below hB6 HE.o.pow.lt;have HPW:=hZ hpow;clear hpow hB6
      go_wp2_with fail
      refine qBQ 99 (fun X=>X.cell? ⟨bc,0,none⟩=some (.slice (some ⟨bi,0,none⟩) n ci)/\X.cell? ⟨bi,k*7,none⟩=some (.string ⟨nm.toArray⟩)) (by kernel_rfl) (⟨z1,z0⟩) (fun hHeld=> ?_);refine kU 3 45 ?_;refine kU 4 46 ?_;refine kU 5 47 ?_;refine kU 6 48 ?_;refine kU 7 49 ?_;refine kU 8 50 ?_;refine qA2 0 (by kernel_rfl) rfl (fun K hK=> ?_);go_simp
      go_wp2_with fail
      refine hK.out _ _ (hHeld) (fun hHeld=> ?_);clear hK K
      try simp only[Act.put,List.setIfInBounds_toArray,List.set_cons_zero,List.set_cons_succ]
      have hdr:Below w6.heap.size w6 w6.drew:=(Below.refl _ _).drew;have hstr:=qLq _ (x.natAbs:Int) w6.drew (H2.o.below hdr) (by show x.natAbs<LIM;exact qHL x HX64.o) (HPW.o.below hdr HPW.o.lt);have hdz:qRY (x.natAbs:Int)=dec x.natAbs:=by unfold qRY;rw[if_neg (by omega)];rfl
      rw[hdz]at hstr;obtain⟨D,hD⟩:=eX (dec x.natAbs);rw[hD]at hstr hd20;have HD:=hZ hD;clear hD hdz;refine qA2 1 (by kernel_rfl) rfl (fun K hK=> ?_);go_simp;refine hstr.mono ?_;clear hstr;rintro e w7 ⟨rfl,hB7⟩;have hB67:Below w6.heap.size w6 w7:=hdr.trans hB7;replace HL:=hZ (HL.o.blw HE.o.h0 hB67);have HS7:Hid (w7.cell? ⟨bc,0,none⟩=some (.slice (some ⟨bi,0,none⟩) n ci)/\w7.cell? ⟨bi,k*7,none⟩=some (.string ⟨nm.toArray⟩)):=hZ ⟨(hB67.cell (p:=⟨bc,0,none⟩) HBX.o.lt).trans z1,(hB67.cell (p:=⟨bi,k*7,none⟩) hbi6).trans z0⟩;clear hHeld hB7 hB67 hdr z0 z1 d0 d1 H2 HPW;unfold sv
      go_wp2_with fail
      refine hK.out _ _ (HS7.o) (fun hHeld=> ?_);clear hK K
      try simp only[Act.put,List.setIfInBounds_toArray,List.set_cons_zero,List.set_cons_succ]
      have hcat:(⟨D.toArray⟩:ByteArray)++⟨#[32]⟩++⟨nm.toArray⟩=⟨(D++32::nm).toArray⟩:=by
       have e1:(⟨#[32]⟩:ByteArray)=⟨([32]:Tx).toArray⟩:=rfl;rw[e1,qEU,qEU,List.append_assoc];rfl
      refine qP2 2 44 (v:=.string (⟨D.toArray⟩++⟨#[32]⟩)) rfl rfl (by kernel_rfl) (by kernel_rfl) (by kernel_rfl) (by kernel_rfl) (fun _ _ _ h=>h) (by rfl) ?_ (by assumption) ?_
      ·(intro w hSw;go_simp;omega)
      simp only[List.setIfInBounds_toArray,List.set_cons_zero,List.set_cons_succ];refine qP2 9 51 (v:=.string ⟨(D++32::nm).toArray⟩) rfl rfl (by kernel_rfl) (by kernel_rfl) (by kernel_rfl) (by kernel_rfl) (fun _ _ _ h=>h) (by rfl) ?_ (by assumption) ?_
      ·(intro w hSw;go_simp;omega)
      simp only[List.setIfInBounds_toArray,List.set_cons_zero,List.set_cons_succ];have hle:(acc++u).length+(D++32::nm).length<=100000000:=by simp only[List.length_append,List.length_cons];omega
      have hwr:=qBK B bb (acc++u) (D++32::nm) w7 HL.o.bld hle (by have:=HL.o.bel.size;have:=HE.o.h0;omega);have hbcB:bc<B:=by have:=HE.o.bx.lt;have:=HE.o.h0;omega
      obtain⟨bi9,cap9,hvi9,hbi9,-⟩:=HE.o.it.at_ k hkN;injection hvi9 with e1 _ _;injection e1 with e1;injection e1 with e1 _ _;subst e1;refine qA2 10 (by kernel_rfl) rfl (fun K hK=> ?_);go_simp;refine hwr.mono ?_;clear hwr;rintro e w8 ⟨⟨v9,rfl⟩,hb9,hB9,hk9⟩;have HB8:=hZ (HL.o.bel.trans hB9);have HBL8:Hid (qGt B bb (acc++lnT N ws (k+1)) w8):=hZ (by rw[HA.o,<-List.append_assoc t,HU.o,HD.o,HGN.o,<-List.append_assoc acc];exact hb9);have HS8:Hid (w8.cell? ⟨bc,0,none⟩=some (.slice (some ⟨bi,0,none⟩) n ci)/\w8.cell? ⟨bi,k*7,none⟩=some (.string ⟨nm.toArray⟩)):=hZ ⟨(hB9.cell (p:=⟨bc,0,none⟩) hbcB).trans HS7.o.1,(hB9.cell (p:=⟨bi,k*7,none⟩) (by have:=HE.o.h0;show bi<B;omega)).trans HS7.o.2⟩;clear hHeld hb9 hB9 hk9 HL
      go_wp2_with fail
      refine hK.out _ _ (HS8.o) (fun hHeld=> ?_);clear hK K
      try simp only[Act.put,List.setIfInBounds_toArray,List.set_cons_zero,List.set_cons_succ]
      refine qGK (by kernel_rfl) ?_ _;clear hHeld;have HF:Hid (decide (lnT N ws (k+1)=[])=false):=hZ (decide_eq_false HNE.o)
      go_wp2_with fail
      go_roundw
      case rel=>exact⟨k+1,by omega,by go_num,by rw[HF.o],HBL8,HB8⟩
      case measure=>simp[intOf];omega
  ·obtain rfl:k=n:=by omega
   have HFN:Hid (qLK N ws=qJs (lnT N ws k)):=hZ (by unfold qLK;rw[HWN.o]);obtain⟨t,ht⟩:=eX (lnT N ws k);rw[ht]at HBL HFN ⊢;have htl:t.length<=6600:=by rw[<-ht];exact HLE.o k (Nat.le_refl _)
   clear ht;have h0:=HE.o.h0;by_cases he:t=[]
   ·have q1:decide (t=[])=true:=decide_eq_true he
    have HL1:Hid (qJs t=[48]):=hZ (by unfold qJs;rw[if_pos he]);subst he;rw[List.append_nil]at HBL
    go_wp2_with fail
    clear q1;refine(qBK B bb acc [48] _ HBL.o (by simp only[List.length_cons,List.length_nil];omega) (by have:=HB.o.size;omega)).mono ?_;rintro e w3 ⟨⟨v3,rfl⟩,hb3,hB3,-⟩;have HB3:=hZ (HB.o.trans hB3);have HL3:=hZ hb3;clear hb3 hB3 HBL HB
    go_wp2_with fail
    refine(qBK B bb (acc++[48]) [10] _ HL3.o (by simp only[List.length_append,List.length_cons,List.length_nil];omega) (by have:=HB3.o.size;omega)).mono ?_;rintro e w4 ⟨⟨v4,rfl⟩,hb4,hB4,-⟩;have HB4:=hZ (HB3.o.trans hB4);have HL4:=hZ hb4;clear hb4 hB4 HL3 HB3
    go_wp2_with fail
    go_end0
    refine⟨⟨_,rfl⟩,?_,HB4.o⟩;rw[HFN.o,HL1.o,<-List.append_assoc];exact HL4.o
   ·have q1:decide (t=[])=false:=decide_eq_false he
    have HL1:Hid (qJs t=t):=hZ (by unfold qJs;rw[if_neg he]);clear he;rw[q1];clear q1
    go_wp2_with fail
    refine(qBK B bb (acc++t) [10] _ HBL.o (by simp only[List.length_append,List.length_cons,List.length_nil];omega) (by have:=HB.o.size;omega)).mono ?_;rintro e w4 ⟨⟨v4,rfl⟩,hb4,hB4,-⟩;have HB4:=hZ (HB.o.trans hB4);have HL4:=hZ hb4;clear hb4 hB4 HBL HB
    go_wp2_with fail
    go_end0
    refine⟨⟨_,rfl⟩,?_,HB4.o⟩;rw[HFN.o,HL1.o,<-List.append_assoc];exact HL4.o
def qPf(n:Nat)(l:List (List Int)):Bool:=l.all (fun r=>decide (r.length=n))
def qFM(c:Cat)(l:List (List Int)):Value:=if qPf c.items.length l=true then .tuple #[sv (prT c.items l l.length),.int .i64 0]else .tuple #[sv [],.int .i64 1]
theorem qN6(B b:Nat)(t:Tx)(w:World)(h:qGt B b t w)(hBw:B<=w.heap.size):
 Calls Tryz.prog 65 #[.pointer (some ⟨b,0,none⟩)] w fun e w'=>e=.returned (sv t)/\Below B w w':=by
 refine(Any.Builder_String_any_f qNm qHe B b t w h hBw).mono ?_;rintro e w' ⟨rfl,_,h2⟩;exact⟨rfl,h2⟩
theorem qMR(vi vr vl:Value)(c:Cat)(l:List (List Int))(w:World)(hc:qAS w vi vr c)(hf:qL8 c)(hl:qA8 w vl l)(h64:∀r∈l,B64 r)(hl100:l.length<=100)(hK:qAZ w)(hP:qC1 w):
 Calls Tryz.prog 27 #[qBo vi vr,vl] w fun e w'=>e=.returned (qFM c l)/\Below w.heap.size w w':=by
 obtain⟨ai,ci,rfl,hi1,hi2⟩:=hc.items.form;obtain⟨ar,cr,rfl,hr1,hr2⟩:=hc.rules.form;obtain⟨al,cl,rfl,hl1,hl2⟩:=hl.form;have HC:=hZ hc;have HF:=hZ hf;have HK:=hZ hK;have HL:=hZ hl;have H64:=hZ h64;have HP:=hZ hP;have hn6:=hf.good.items;obtain⟨n,hn⟩:=eX c.items.length;have Hn:=hZ hn;obtain⟨m,hm⟩:=eX l.length;have Hm:=hZ hm;rw[hm]at hl100 hl1 ⊢;clear hc hf hK hl h64 hP hm;unfold qBo;rw[hn]at hi1 hn6 ⊢;obtain⟨w1,hw1⟩:=eX (w.alloc (.cells #[.slice ai n ci,.slice ar c.rules.length cr,.slice none 0 0,.slice none 0 0] 28));have HB:Hid (Below w.heap.size w w1):=hZ (by rw[<-hw1];exact aR);have HX:Hid (qBw w1 w.heap.size (.slice ai n ci) (.slice ar c.rules.length cr)):=hZ (by rw[<-hw1];exact qBw.new w _ _);have m0:=HX.o.c0;have m1:=HX.o.c1;have m2:=HX.o.c2;have m3:=HX.o.c3;have mlt:=HX.o.lt;clear hn
 go_enter Tryz.func27,Tryz.ntmps27
 go_wp2_with fail
 clear hw1;have hval:=qDl _ _ c w1 (HC.o.below HB.o) HF.o.good HF.o.named HF.o.ni HF.o.nr (HK.o.keep HB.o);unfold qBo at hval;rw[Hn.o]at hval;refine hval.mono ?_;clear hval;rintro e w2 ⟨rfl,hB⟩;replace HB:=bT HB hB;replace HX:=hZ (HX.o.below hB);clear hB m0 m1 m2 m3 mlt;have m0:=HX.o.c0;have m1:=HX.o.c1;have m2:=HX.o.c2;have m3:=HX.o.c3;have mlt:=HX.o.lt;replace HL:=hZ (HL.o.below HB.o)
 go_wp2_with fail
 go_loop [20] (fun iv=>∃k:Nat,k<=m/\iv=.int .i64 k/\Hid (∀j (h:j<l.length),j<k->l[j].length=n)) (fun iv=>m-(intOf iv).toNat)
 case atStart=>exact⟨0,by omega,rfl,hZ (fun j _ h=>by omega)⟩
 case round=>
  obtain⟨k,hk,rfl,HA⟩:=hrel;by_cases hlt:k<m
  ·have i1:(0:Int)<=(k:Int):=by omega
   have i2:(k:Int)<(m:Int):=by omega
   have hkl:k<l.length:=by have:=Hm.o;omega
   obtain⟨b1,cap1,a2,c2,hv1,hb1,y0, -, -,-⟩:=HL.o.at_ k hkl;injection hv1 with e1 e2 e3;subst e1;clear e2 e3;obtain⟨r,hr⟩:=eX (l[k].length);have HR:=hZ hr;rw[hr]at y0;clear hr;by_cases hrn:r=n
   ·have q1:((r:Int) != (n:Int))=false:=by simp[hrn]
    have HN:Hid (∀j (h:j<l.length),j<k+1->l[j].length=n):=hZ (fun j h hj=>by
     by_cases e:j=k
     ·subst e;rw[HR.o,hrn]
     ·exact HA.o j h (by omega))
    clear hrn
    go_wp2_with fail
    go_round
    case rel=>exact⟨k+1,by omega,by go_num,HN⟩
    case measure=>simp[intOf];omega
   ·have q1:((r:Int) != (n:Int))=true:=by simp;omega
    have HV:Hid (qFM c l=.tuple #[sv [],.int .i64 1]):=hZ (by
     unfold qFM qPf;rw[if_neg];rw[List.all_eq_true];intro h;have:=h _ (List.getElem_mem hkl);rw[decide_eq_true_eq,HR.o,Hn.o]at this;exact hrn this)
    clear hrn
    go_wp2_with fail
    exact bodyPost_ret (v:=.tuple #[sv [],.int .i64 1]) (by simp[results,Tryz.results27,go_sem,sv]) rfl ⟨by rw[HV.o],HB.o⟩
  ·have HEV:Hid (qPf c.items.length l=true):=hZ (by
    unfold qPf;rw[List.all_eq_true];intro x hx;obtain⟨j,hj,rfl⟩:=List.mem_iff_getElem.1 hx;rw[decide_eq_true_eq,Hn.o];exact HA.o j hj (by have:=Hm.o;omega))
   have i2:¬(k:Int)<(m:Int):=by omega
   obtain⟨bb,hbb⟩:=eX w2.heap.size;have HBb:=hZ hbb;obtain⟨w3,hw3⟩:=eX (w2.alloc (.cells #[.pointer none,.slice none 0 0] 97));have HB3:Hid (Below bb w2 w3):=hZ (by rw[<-hw3,<-hbb];exact aR);have HL3:Hid (qGt bb bb (prT c.items l 0) w3):=hZ (by
    have h9:=Lib.IsBuilderF.of (Lib.fresh_isBuilder 97 5 w2);rw[hw3,hbb]at h9;exact h9)
   have HNL:Hid (∀q∈c.items,q.length<=1000):=hZ (fun q hq=>(HF.o.named.wi q hq).1);have HLT:Hid (∀j,j<=m->(prT c.items l j).length<=1000000):=hZ (fun j hj=>by
    have h9:=qPC (n:=n) HNL.o (l:=l) (fun q hq=>⟨by
     obtain⟨j,hj,rfl⟩:=List.mem_iff_getElem.1 hq;exact HA.o j hj (by have:=Hm.o;omega),H64.o q hq⟩) j (by have:=Hm.o;omega)
    have h8:(1100*n+2)*j<=6602*100:=Nat.mul_le_mul (by omega) (by omega);omega)
   have HPW:=hZ (HP.o.below HB.o HP.o.lt)
   go_wp2_with fail
   clear hbb hw3 m0 m1 m2 m3
   go_loopw [34] (fun iv wr=>∃j:Nat,j<=m/\iv=.int .i64 j/\Hid (qGt bb bb (prT c.items l j) wr)/\Hid (Below bb w2 wr)) (fun iv _=>m-(intOf iv).toNat)
   case atStart=>exact⟨0,by omega,rfl,HL3,HB3⟩
   case round=>
    clear HL3 HB3;obtain⟨j,hj,rfl,HL3,HB3⟩:=hrel;obtain⟨wl,rfl⟩:=eY wr;by_cases hlj:j<m
    ·have j1:(0:Int)<=(j:Int):=by omega
     have j2:(j:Int)<(m:Int):=by omega
     have hjl:j<l.length:=by have:=Hm.o;omega
     have hB2l:Below w2.heap.size w2 wl:=by rw[HBb.o];exact HB3.o
     obtain⟨b1,cap1,a2,c2,hv1,hb1,y0, -, -,-⟩:=(HL.o.below hB2l).at_ j hjl;obtain⟨b2,cap2,a3,c3,hv2,hb2,y1,hi9, -,-⟩:=HL.o.at_ j hjl;have hsame:=y0;rw[hv1]at hv2;injection hv2 with e9 _ _;injection e9 with e9;injection e9 with e9 _ _;subst e9;rw[(hB2l.cell (p:=⟨b1,j,none⟩) hb2).trans y1]at hsame;injection hsame with hsame;injection hsame with e1 _ e3;subst e1 e3;injection hv1 with e1 e2 e3;subst e1;clear e2 e3 y1;have hrn:l[j].length=n:=HA.o j hjl (by have:=Hm.o;omega);have HR64:=hZ (H64.o l[j] (List.getElem_mem hjl));have HGD:Hid (l.getD j []=l[j]):=hZ (by rw[List.getD_eq_getElem?_getD,List.getElem?_eq_getElem hjl];rfl);obtain⟨r,hr⟩:=eX (l[j]);rw[hr]at y0 hi9 hrn HR64 HGD;have HI:=hZ hi9;have HRN:=hZ hrn;rw[hrn]at y0;clear hr hi9 hrn hB2l
     go_wp2_with fail
     have hln:=qOQ w2 wl bb bb w.heap.size (.slice a3 r.length c3) r (.slice ai c.items.length ci) (.slice ar c.rules.length cr) c.items (prT c.items l j) ⟨HBb.o.symm,HI.o,HR64.o,by rw[HRN.o,Hn.o],by rw[Hn.o];exact hn6,HNL.o,HC.o.items.below HB.o,by rw[Hn.o];exact HX.o,HPW.o⟩ HL3.o HB3.o (HLT.o j (by omega));rw[HRN.o]at hln;refine hln.mono ?_;clear hln;rintro e w5 ⟨⟨v5,rfl⟩,hb5,hB5⟩;have HB5:=hZ hB5;have HL5:Hid (qGt bb bb (prT c.items l (j+1)) w5):=hZ (by rw[prT,HGD.o];exact hb5);clear hb5 hB5
     go_wp2_with fail
     go_roundw
     case rel=>exact⟨j+1,by omega,by go_num,HL5,HB5⟩
     case measure=>simp[intOf];omega
    ·have hjm:j=m:=by omega
     have j2:¬(j:Int)<(m:Int):=by omega
     have HV:Hid (qFM c l=.tuple #[sv (prT c.items l j),.int .i64 0]):=hZ (by unfold qFM;rw[if_pos HEV.o,Hm.o,hjm]);have hrd:=qN6 bb bb _ wl HL3.o (by have:=HB3.o.size;have:=HBb.o;omega);clear hjm
     go_wp2_with fail
     refine hrd.mono ?_;clear hrd;rintro e w6 ⟨rfl,hB6⟩;have HB6:=hZ (HB.o.trans ((HB3.o.trans hB6).mono (by have:=HB.o.size;have:=HBb.o;omega)));clear hB6;unfold sv
     go_wp2_with fail
     exact bodyPost_ret (v:=.tuple #[sv (prT c.items l j),.int .i64 0]) (by simp[results,Tryz.results27,go_sem,sv]) rfl ⟨by rw[HV.o],HB6.o⟩
theorem qQJ:qOi (qAt 2) [2,6,1]=(0, -6,true):=by decide
theorem qPa:qDd (qAt 1) [-4, -12, -2]=true:=by decide
theorem qO9:qFM (qAt 1) [[2,6,1]]=.tuple #[.string ⟨#[50,32,111,114,101,32,43,32,54,32,98,97,114,32,43,32,49,32,99,111,105,110,10]⟩,.int .i64 0]:=by
 unfold qFM;rw[if_pos (by decide)]
 show Value.tuple #[sv (prT [[111,114,101],[98,97,114],[99,111,105,110]] [[2,6,1]] 1),.int .i64 0]=_
 rw[qOU];rfl
theorem qQw{w:World}{g:Nat}(a b c:Int)(h:qAf w g 3 [.int .i64 a,.int .i64 b,.int .i64 c]):qAg w (.slice (some ⟨g,0,none⟩) 3 3) [a,b,c]:=qCg (l:=[a,b,c]) h (by simp) (by simp)
theorem qOL{w:World}{g:Nat}{u:Value}{r:List Int}(h1:qAg w u r)(h2:qAf w g 22 [u]):qA8 w (.slice (some ⟨g,0,none⟩) 1 1) [r]:=by
 refine qBc (k:=1) (xs:=[r]) (css:=[[u]]) (by simpa using h2) (by simp) rfl (fun j hj hj2=> ?_) (by simp) (by simp);obtain rfl:j=0:=by simp at hj;omega
 exact⟨u,rfl,h1⟩
theorem qSs(vi vr:Value)(w:World)(hc:qAS w vi vr (qAt 1))(hK:qAZ w):Calls Tryz.prog 12 #[qBo vi vr] w fun e w'=>(∃a cp,e=.returned (.tuple #[.slice a 1 cp,.int .i64 0])/\qA8 w' (.slice a 1 cp) [[2,6,1]])/\Below w.heap.size w w':=by
 refine(qEJ vi vr (qAt 1) w hc (qEk 1 (by omega) (by omega)) (by simp[qAt]) (qPG 1) hK).mono ?_;rintro e w' ⟨⟨u,K,rfl,hm,hb⟩,hB⟩;obtain rfl:K=[[2,6,1]]:=qEt.uniq hb qPe;obtain⟨a,cp,rfl, -,-⟩:=hm.form;exact⟨⟨a,cp,rfl,hm⟩,hB⟩
theorem qSr(vi vr:Value)(w:World)(hc:qAS w vi vr (qAt 2))(hK:qAZ w):Calls Tryz.prog 12 #[qBo vi vr] w fun e w'=>(∃a cp,e=.returned (.tuple #[.slice a 0 cp,.int .i64 0]))/\Below w.heap.size w w':=by
 refine(qEJ vi vr (qAt 2) w hc (qEk 2 (by omega) (by omega)) (by simp[qAt]) (qPG 2) hK).mono ?_;rintro e w' ⟨⟨u,K,rfl,hm,hb⟩,hB⟩;obtain rfl:K=[]:=qEt.uniq hb qPd;obtain⟨a,cp,rfl, -,-⟩:=hm.form;exact⟨⟨a,cp,rfl⟩,hB⟩
theorem qDx(w:World)(hK:qAZ w)(hP:qC1 w):Calls Tryz.prog 14 #[] w fun e w'=>e=.returned (.bool true)/\Below w.heap.size w w':=by
 have HK:=hZ hK;have HP:=hZ hP;have HB:=hZ (Below.refl w.heap.size w);clear hK hP
 go_enter Tryz.func14,Tryz.ntmps14
 go_wp2_with fail
 refine(qBV 1 (by decide) _).mono ?_;rintro e w1 ⟨⟨vi,vr,rfl,hc⟩,hB⟩;have HC:=hZ hc;replace HB:=bT HB hB
 try replace M1:=hZ (M1.o.below hB)
 clear hc hB
 go_wp2_with fail
 refine(qSs _ _ w1 HC.o (HK.o.keep HB.o)).mono ?_;rintro e w2 ⟨⟨a1,c1,rfl,hm⟩,hB⟩;have M1:=hZ hm;replace HB:=bT HB hB;clear hm hB HC
 go_wp2_with fail
 refine(qBV 1 (by decide) _).mono ?_;rintro e w3 ⟨⟨vi,vr,rfl,hc⟩,hB⟩;have HC:=hZ hc;replace HB:=bT HB hB
 try replace M1:=hZ (M1.o.below hB)
 clear hc hB
 go_wp2_with fail
 have hpr:=qMR _ _ (.slice a1 1 c1) (qAt 1) [[2,6,1]] w3 HC.o (qEk 1 (by omega) (by omega)) M1.o (by unfold B64;simp) (by simp) (HK.o.keep HB.o) (HP.o.below HB.o HP.o.lt);rw[qO9]at hpr;refine hpr.mono ?_;clear hpr;rintro e w4 ⟨rfl,hB⟩;replace HB:=bT HB hB
 try replace M1:=hZ (M1.o.below hB)
 try replace HC:=hZ (HC.o.below hB)
 clear hB;clear HC
 go_wp2_with fail
 refine(qBV 2 (by decide) _).mono ?_;rintro e w5 ⟨⟨vi,vr,rfl,hc⟩,hB⟩;have HC:=hZ hc;replace HB:=bT HB hB
 try replace M1:=hZ (M1.o.below hB)
 clear hc hB
 go_wp2_with fail
 refine(qSr _ _ w5 HC.o (HK.o.keep HB.o)).mono ?_;rintro e w6 ⟨⟨a2,c2,rfl⟩,hB⟩;replace HB:=bT HB hB
 try replace M1:=hZ (M1.o.below hB)
 try replace HC:=hZ (HC.o.below hB)
 clear hB;clear HC
 go_wp2_with fail
 refine(qBV 2 (by decide) _).mono ?_;rintro e w7 ⟨⟨vi,vr,rfl,hc⟩,hB⟩;have HC:=hZ hc;replace HB:=bT HB hB
 try replace M1:=hZ (M1.o.below hB)
 clear hc hB
 go_wp2_with fail
 obtain⟨w8,hw⟩:=eX (w7.alloc (.cells #[.int .i64 2,.int .i64 6,.int .i64 1] 3));have hB:=aB hw;have HI:Hid (qAg w8 (.slice (some ⟨w7.heap.size,0,none⟩) 3 3) [2,6,1]):=hZ (by rw[<-hw];exact qQw 2 6 1 (qAf.new _ _ _));rw[hw];clear hw;replace HB:=bT HB hB
 try replace M1:=hZ (M1.o.below hB)
 try replace HC:=hZ (HC.o.below hB)
 clear hB;have hbr:=qHd _ _ _ (qAt 2) [2,6,1] w8 HC.o (qEk 2 (by omega) (by omega)) HI.o (by unfold B64;simp) (HK.o.keep HB.o);rw[qQJ]at hbr;unfold qRZ at hbr;refine hbr.mono ?_;clear hbr HI;rintro e w9 ⟨rfl,hB⟩;replace HB:=bT HB hB
 try replace M1:=hZ (M1.o.below hB)
 try replace HC:=hZ (HC.o.below hB)
 clear hB;clear HC;obtain⟨w10,hw10⟩:=eX (w9.alloc (.cells #[.int .i64 2,.int .i64 6,.int .i64 1] 3));obtain⟨w11,hw11⟩:=eX (w10.alloc (.cells #[.slice (some ⟨w9.heap.size,0,none⟩) 3 3] 22));have hB10:Below w9.heap.size w9 w10:=by rw[<-hw10];exact aR
 have hB11:Below w10.heap.size w10 w11:=by rw[<-hw11];exact aR
 have hz10:w10.heap.size=w9.heap.size+1:=by rw[<-hw10];simp
 have hI10:qAg w10 (.slice (some ⟨w9.heap.size,0,none⟩) 3 3) [2,6,1]:=by rw[<-hw10];exact qQw 2 6 1 (qAf.new _ _ _)
 have HM2:Hid (qA8 w11 (.slice (some ⟨w9.heap.size+1,0,none⟩) 1 1) [[2,6,1]]):=hZ (qOL (hI10.below hB11) (by rw[<-hw11,<-hz10];exact qAf.new _ _ _));have hB:Below w9.heap.size w9 w11:=hB10.trans (hB11.mono (by omega));replace HB:=bT HB hB
 try replace M1:=hZ (M1.o.below hB)
 try replace HC:=hZ (HC.o.below hB)
 clear hB;clear hB10 hB11 hI10;have hsm:=qKA _ _ _ _ w11 M1.o HM2.o;rw[decide_eq_true rfl]at hsm
 go_wp2_with fail
 clear hw10 hw11 hz10;refine hsm.mono ?_;clear hsm HM2;rintro e w12 ⟨rfl,hB⟩;replace HB:=bT HB hB
 try replace M1:=hZ (M1.o.below hB)
 try replace HC:=hZ (HC.o.below hB)
 clear hB
 go_wp2_with fail
 refine(qBV 1 (by decide) _).mono ?_;rintro e w13 ⟨⟨vi,vr,rfl,hc⟩,hB⟩;have HC:=hZ hc;replace HB:=bT HB hB
 try replace M1:=hZ (M1.o.below hB)
 clear hc hB
 go_wp2_with fail
 obtain⟨w14,hw⟩:=eX (w13.alloc (.cells #[.int .i64 (-4),.int .i64 (-12),.int .i64 (-2)] 3));have hB:=aB hw;have HI:Hid (qAg w14 (.slice (some ⟨w13.heap.size,0,none⟩) 3 3) [-4, -12, -2]):=hZ (by rw[<-hw];exact qQw (-4) (-12) (-2) (qAf.new _ _ _));rw[hw];clear hw;replace HB:=bT HB hB
 try replace M1:=hZ (M1.o.below hB)
 try replace HC:=hZ (HC.o.below hB)
 clear hB;have hho:=callsIn_wide.1 (qIO _ _ _ (qAt 1) [-4, -12, -2] w14 HC.o (qEk 1 (by omega) (by omega)) HI.o (by unfold B64;simp) (HK.o.keep HB.o));rw[qPa]at hho;refine hho.mono ?_;clear hho HI;rintro e w15 ⟨rfl,hB⟩;replace HB:=bT HB hB
 try replace M1:=hZ (M1.o.below hB)
 try replace HC:=hZ (HC.o.below hB)
 clear hB
 go_wp2_with fail
 exact bodyPost_ret (v:=.bool true) (by simp[results,Tryz.results14,go_sem]) rfl ⟨rfl,HB.o⟩
end Go.Proofs.YtkjhlkngihponaaGreatDoor
