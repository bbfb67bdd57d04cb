/- the law LawsKept: its walk. -/
import Derived.Test.YtkjhlkngihponaaGreatDoorQKYLive
import Derived.Test.YtkjhlkngihponaaGreatDoorQKYInts
import Derived.Test.YtkjhlkngihponaaGreatDoorQKLRow
import Derived.Deep.CutRange
set_option linter.unusedVariables false
set_option linter.unusedSimpArgs false
set_option maxHeartbeats 8000000
set_option maxRecDepth 100000
namespace Go.Proofs.YtkjhlkngihponaaGreatDoor
open Go.RowKit
def qRc(w:World)(b:Nat)(u0 u1 u2 u3 u4 u5 u6 u7 u8:Value):World:=((((((((w.setCell ⟨b,0,none⟩ u0).setCell ⟨b,1,none⟩ u1).setCell ⟨b,2,none⟩ u2).setCell ⟨b,3,none⟩ u3).setCell ⟨b,4,none⟩ u4).setCell ⟨b,5,none⟩ u5).setCell ⟨b,6,none⟩ u6).setCell ⟨b,7,none⟩ u7).setCell ⟨b,8,none⟩ u8
theorem qAf.set9{w:World}{b:Nat}{t:TypeId}{z0 z1 z2 z3 z4 z5 z6 z7 z8:Value}(h:qAf w b t [z0,z1,z2,z3,z4,z5,z6,z7,z8])(u0 u1 u2 u3 u4 u5 u6 u7 u8:Value):qAf (qRc w b u0 u1 u2 u3 u4 u5 u6 u7 u8) b t [u0,u1,u2,u3,u4,u5,u6,u7,u8]:=
 ((((((((h.set 0 u0).set 1 u1).set 2 u2).set 3 u3).set 4 u4).set 5 u5).set 6 u6).set 7 u7).set 8 u8
theorem qIy(w:World)(b:Nat)(u0 u1 u2 u3 u4 u5 u6 u7 u8:Value):qAc (fun q=>q=b) w (qRc w b u0 u1 u2 u3 u4 u5 u6 u7 u8):=
 ((((((((((qAc.refl (fun q=>q=b) w).set (p:=⟨b,0,none⟩) rfl _).set (p:=⟨b,1,none⟩) rfl _).set (p:=⟨b,2,none⟩) rfl _).set (p:=⟨b,3,none⟩) rfl _).set (p:=⟨b,4,none⟩) rfl _).set (p:=⟨b,5,none⟩) rfl _).set (p:=⟨b,6,none⟩) rfl _).set (p:=⟨b,7,none⟩) rfl _).set (p:=⟨b,8,none⟩) rfl _)
theorem qAf.all9{w:World}{b:Nat}{t:TypeId}{z0 z1 z2 z3 z4 z5 z6 z7 z8:Value}(h:qAf w b t [z0,z1,z2,z3,z4,z5,z6,z7,z8]):w.cell? ⟨b,0,none⟩=some z0/\w.cell? ⟨b,1,none⟩=some z1/\w.cell? ⟨b,2,none⟩=some z2/\w.cell? ⟨b,3,none⟩=some z3/\w.cell? ⟨b,4,none⟩=some z4/\w.cell? ⟨b,5,none⟩=some z5/\w.cell? ⟨b,6,none⟩=some z6/\w.cell? ⟨b,7,none⟩=some z7/\w.cell? ⟨b,8,none⟩=some z8:=
 ⟨h.cell 0,h.cell 1,h.cell 2,h.cell 3,h.cell 4,h.cell 5,h.cell 6,h.cell 7,h.cell 8⟩
theorem qII(v1:Value)(zs1:List Int)(n1:Nat)(v2:Value)(zs2:List Int)(n2:Nat)(v3:Value)(zs3:List Int)(n3:Nat)(bal:Bool)(w:World)(h1:qBW w v1 zs1 n1)(h2:qBW w v2 zs2 n2)(h3:qBW w v3 zs3 n3)(hK:qAZ w)(hP:qC1 w):
 Calls Tryz.prog 10 #[v1,v2,v3,.bool bal] w fun e w'=>e=.returned (.bool true)/\Below w.heap.size w w':=by
 have HK:=hZ hK;have HP:=hZ hP;have H2:=hZ h2;have H3:=hZ h3;have HB:=hZ (Below.refl w.heap.size w);have hcat:=qGo v1 zs1 n1 bal w h1;have hp1:=qHv zs1 n1;obtain⟨c,hcc⟩:=eX (qBA (qQg zs1 n1) bal);have hf:=qF5 (bal:=bal) hp1;have hsm:=qNx (bal:=bal) hp1;have hn5:=qG1 (bal:=bal) hp1;rw[hcc]at hcat hf hsm hn5;have HF:=hZ hf;have HS:=hZ hsm;have HCAT:=hZ hcat;have hn1:=hf.good.some_;have hr22:=hf.good.rules;clear h1 h2 h3 hK hP hcat hp1 hcc hf hsm
 go_enter Tryz.func10,Tryz.ntmps10
 go_wp2_with fail
 refine HCAT.o.mono ?_;clear HCAT;rintro e w1 ⟨⟨vi,vr,rfl,hc⟩,hB⟩;have HC:=hZ hc;obtain⟨ai,ci,rfl,hi1,hi2⟩:=hc.items.form;obtain⟨ar,cr,rfl,hr1,hr2⟩:=hc.rules.form;replace HB:=bT HB hB;clear hc hB;unfold qBo;obtain⟨nr,hnr⟩:=eX c.rules.length;obtain⟨ni,hni⟩:=eX c.items.length;have HNI:=hZ hni;have HNR:=hZ hnr;rw[hnr]at hr1 HC hr22 ⊢;rw[hni]at hi1 HC hn5 hn1 ⊢;clear hnr hni
 go_wp2_with fail
 obtain⟨w2,hw2⟩:=eX (w1.alloc (.cells #[.slice ai ni ci,.slice ar nr cr,.slice none 0 0,.slice none 0 0] 28));obtain⟨bc,hbc⟩:=eX w1.heap.size;have hB:Below w1.heap.size w1 w2:=by rw[<-hw2];exact aR
 have HX:Hid (qBw w2 bc (.slice ai ni ci) (.slice ar nr cr)):=hZ (hw2▸hbc▸qBw.new w1 _ _:qBw w2 bc (.slice ai ni ci) (.slice ar nr cr));rw[hw2,hbc];replace HB:=bT HB hB;replace HC:=hZ (HC.o.below hB);clear hw2 hbc hB;refine(qEJ _ _ c w2 HC.o HF.o (by rw[HNI.o];exact hn5) HS.o (HK.o.keep HB.o)).mono ?_;rintro e w5 ⟨⟨ua,K,rfl,hma,hba⟩,hB⟩;obtain⟨aa,ca,rfl,hca1,hca2⟩:=hma.form;have MA:=hZ hma;have HBA:=hZ hba;obtain⟨na,hna⟩:=eX K.length;have HNA:=hZ hna;rw[hna]at MA hca1 ⊢;replace HB:=bT HB hB;replace HC:=hZ (HC.o.below hB);replace HX:=hZ (HX.o.below hB);clear hB hma hba hna;have HC5:=HC;have HX5:=HX;have x0:=HX.o.c0;have x1:=HX.o.c1;have x2:=HX.o.c2;have x3:=HX.o.c3;have xl:=HX.o.lt
 go_wp2_with (at_make;refine qBq rfl rfl (ni) rfl rfl rfl rfl (by omega) ?_)
 intro w6 hmk hB hlt6;obtain⟨gb,hg⟩:=eX w5.heap.size;have HG:=hZ hg;have HBag:Hid (qAf w6 gb 3 (qBa ni (fun _=>0))):=hZ (by rw[<-hg];simpa[qBa,zv,List.map_const']using hmk);have hbg:bc<gb:=by rw[<-hg];exact xl
 have hwg:w.heap.size<=gb:=by rw[<-hg];exact HB.o.size
 have HB56:Hid (Below gb w5 w6):=hZ (by rw[<-hg];exact hB);rw[hg];clear hmk hlt6 hB hg x0 x1 x2 x3 xl
 go_wp2_with fail
 go_loopw [13] (fun iv wr=>∃(k:Nat) (f:Nat->Int),k<=ni/\iv=.int .i64 k/\Hid (∀i,0<=f i/\f i<=29)/\Hid (qAf wr gb 3 (qBa ni f))/\Hid (Below gb w5 wr)) (fun iv _=>ni-(intOf iv).toNat)
 case atStart=>exact⟨0,fun _=>0,by omega,rfl,hZ (fun _=>by simp),HBag,HB56⟩
 case round=>
  clear HBag HB56;obtain⟨k,f,hk,rfl,HFB,HBag,HB56⟩:=hrel;obtain⟨wl,rfl⟩:=eY wr;have hB5l:Below w5.heap.size w5 wl:=by rw[HG.o];exact HB56.o
  have HBl:=hZ (HB.o.trans (hB5l.mono HB.o.size));by_cases hlt:k<ni
  ·have i1:(0:Int)<=(k:Int):=by omega
   have i2:(k:Int)<(ni:Int):=by omega
   have hpk:=qDs v2 zs2 n2 k 30 wl (H2.o.below (Nat.le_refl _) HBl.o) (by omega) (by omega) (by omega);have hpr:=qCe zs2 n2 k 30 (by omega);obtain⟨z,hz⟩:=eX (qDI zs2 n2 k 30);rw[hz]at hpk hpr;have HPR:=hZ hpr;have y2:=HBag.o.cell k;rw[qBC _ _ _ hlt]at y2;have y3:=HBag.o.frozen k;clear hz hpr hB5l
   go_wp2_with fail
   refine hpk.mono ?_;clear hpk;rintro e w' ⟨rfl,rfl⟩;obtain⟨w7,hw7⟩:=eX (w'.setCell ⟨gb,k,none⟩ (.int .i64 z));have HBag7:Hid (qAf w7 gb 3 (qBa ni (fun i=>if i=k then z else f i))):=hZ (by rw[<-hw7,<-qB1];exact HBag.o.set k _);have HB7:Hid (Below gb w5 w7):=hZ (by rw[<-hw7];exact HB56.o.setCell (p:=⟨gb,k,none⟩) (Nat.le_refl _) _);have HF7:Hid (∀i,0<=(if i=k then z else f i)/\(if i=k then z else f i)<=29):=hZ (fun i=>by
    have:=HFB.o i;have:=HPR.o
    split<;>omega)
   go_wp2_with fail
   try rw[hw7]
   clear hw7 y2 y3;go_roundw
   case rel=>exact⟨k+1,_,by omega,by go_num,HF7,HBag7,HB7⟩
   case measure=>simp[intOf];omega
  ·have i3:¬(k:Int)<(ni:Int):=by omega
   replace HC:=hZ (HC.o.below hB5l);replace HX:=hZ (HX.o.below hB5l);replace MA:=hZ (MA.o.below hB5l);replace HB:=HBl;have H5:=hZ hB5l;have hown:(wl.alloc (.cells #[] 3)).ownsRow wl.heap.size 3 1 (.slice (some ⟨wl.heap.size,0,none⟩) 0 0) 0 []:=qKI wl 3 [] (by simp);have HOW:=hZ hown;have HA1:Hid (Below wl.heap.size wl (wl.alloc (.cells #[] 3))):=hZ aR;have HIB:Hid (qAg wl (.slice (some ⟨gb,0,none⟩) ni ni) (qBO ni f)):=hZ (by have h9:=HBag.o;rw[<-List.append_nil (qBa ni f)]at h9;exact qCq h9 (Nat.le_refl _) (by omega));have HIA:=hZ (HIB.o.below HA1.o);clear hown hB5l HB56 HBl
   go_wp2_with (at_builtin;refine qFu (W0:=wl) (B:=wl.heap.size) qEP rfl _ _ rfl _ (.slice (some ⟨gb,0,none⟩) ni ni) 0 [] (qBO ni f) rfl rfl HIA.o HOW.o HA1.o (by simp) (by rw[qAz];omega) (by omega) ?_)
   intro v' w7 ho hb hon;obtain⟨gn,cn,hv', -,-⟩:=ho.o.form (by rw[qAz];exact hn1);subst hv';have HNow:Hid (qAg w7 (.slice (some ⟨gn,0,none⟩) ni cn) (qBO ni f)):=hZ (by have h9:=qIN ho.o rfl;rw[qAz]at h9;exact h9);rw[qAz];have hB:Below wl.heap.size wl w7:=hb.o;replace HB:=bT HB hB;replace HC:=hZ (HC.o.below hB);replace HX:=hZ (HX.o.below hB);replace MA:=hZ (MA.o.below hB);replace HBag:=hZ (HBag.o.below hB HBag.o.lt);replace H5:=bT H5 hB;clear hB ho hb hon HOW HA1 HIB HIA i3
   go_upto_block 2 with fail
   go_cut [14]from 63 to 105 (fun nv wr=>∃(g cp:Nat) (f2:Nat->Int),nv=.slice (some ⟨g,0,none⟩) ni cp/\Hid (qAg wr (.slice (some ⟨g,0,none⟩) ni cp) (qBO ni f2))/\Hid (∀i,0<=f2 i/\f2 i<=1229)/\Hid (∀x∈K,qBI x f2 ni=qBI x f ni)/\Hid (qAS wr (.slice ai ni ci) (.slice ar nr cr) c)/\Hid (qBw wr bc (.slice ai ni ci) (.slice ar nr cr))/\Hid (qA8 wr (.slice aa na ca) K)/\Hid (qAf wr gb 3 (qBa ni f))/\Hid (Below w.heap.size w wr)/\Hid (Below w5.heap.size w5 wr))
   case first=>
    go_wp2_with fail
    go_loopw [15,14] (fun iv nv wr=>∃(t:Nat) (g:Nat) (cp:Nat) (f2:Nat->Int),t<=20/\iv=.int .i64 t/\nv=.slice (some ⟨g,0,none⟩) ni cp/\Hid (qAg wr (.slice (some ⟨g,0,none⟩) ni cp) (qBO ni f2))/\Hid (∀i,0<=f2 i/\f2 i<=29+60*t)/\Hid (∀x∈K,qBI x f2 ni=qBI x f ni)/\Hid (qAS wr (.slice ai ni ci) (.slice ar nr cr) c)/\Hid (qBw wr bc (.slice ai ni ci) (.slice ar nr cr))/\Hid (qA8 wr (.slice aa na ca) K)/\Hid (qAf wr gb 3 (qBa ni f))/\Hid (Below w.heap.size w wr)/\Hid (Below w5.heap.size w5 wr)) (fun iv _ _=>20-(intOf iv).toNat)
    case atStart=>exact⟨0,gn,cn,f,by omega,rfl,rfl,HNow,hZ (fun i=>by have:=HFB.o i;omega),hZ (fun _ _=>rfl),HC,HX,MA,HBag,HB,H5⟩
    case round=>
     clear HNow HC HX MA HBag HB H5;obtain⟨t,g,cp,f2,ht,rfl,rfl,HNow,HF2,HD2,HC,HX,MA,HBag,HB,H5⟩:=hrel;obtain⟨wb,rfl⟩:=eY wr;have x0:=HX.o.c0;have x1:=HX.o.c1;have x2:=HX.o.c2;have x3:=HX.o.c3;have xl:=HX.o.lt;by_cases hgo:t<20/\0<nr
     ·obtain⟨ht2,hr0⟩:=hgo
      have q1:decide ((t:Int)<20)=true:=decide_eq_true (by omega);have q2:decide ((0:Int)<(nr:Int))=true:=decide_eq_true (by omega);have q3:decide (0<nr)=true:=decide_eq_true hr0;have q4:decide (t<20)=true:=decide_eq_true ht2;have hpk:=qDs v3 zs3 n3 t nr wb.drew ((H3.o.below (Nat.le_refl _) HB.o).below (Nat.le_refl _) (show Below wb.heap.size wb wb.drew from(Below.refl _ _).drew)) (by omega) (by omega) (by omega);have hpr:=qCe zs3 n3 t nr (by omega);obtain⟨m,hm⟩:∃m:Nat,qDI zs3 n3 t nr=(m:Int):=⟨(qDI zs3 n3 t nr).toNat,by omega⟩;have HPM:=hZ hm;rw[hm]at hpk hpr;have hml:m<nr:=by omega
      have hmc:m<c.rules.length:=by have:=HNR.o;omega
      obtain⟨bR,capR,p,hvR,hbR,hri,hrc⟩:=qA1.at_ HC.o.rules m hmc;injection hvR with e1 e2 e3;subst e1;clear e2 e3;have HMC:=hZ hmc;generalize hre:c.rules[m]'hmc=r at hri hrc;have HRE:Hid (∃h:m<c.rules.length,c.rules[m]=r):=hZ ⟨hmc,hre⟩;have HRI:=hZ hri;obtain⟨y0,y1,y2,y3,y4,y5,y6,y7,y8⟩:=hrc;have i1:(0:Int)<=(m:Int):=by omega
      have i2:(m:Int)<(nr:Int):=by omega
      clear hm hre hri hpr hmc
      go_upto_region 14 with fail
      clear q1 q2 q3 q4
      go_cut [16]from 63 to 105 (fun s16 wc=>∃bx:Nat,s16=.pointer (some ⟨bx,0,none⟩)/\Hid (qAf wc bx 54 [.string ⟨r.name.toArray⟩,.bool r.spawn,.int .i64 0,.int .i64 r.time,.int .i64 1,.int .i64 r.of_,.slice p.at_ r.take.length p.ct,.slice p.ag r.give.length p.cg,.slice p.ab r.back.length p.cb])/\Hid (Below wb.heap.size wb wc))
      case first=>
       refine qBQ 99 (fun X=>X.cell? ⟨bc,1,none⟩=some (.slice (some ⟨bR,0,none⟩) nr cr)/\X.cell? ⟨bR,m*9,none⟩=some (.string ⟨r.name.toArray⟩)/\X.cell? ⟨bR,m*9+1,none⟩=some (.bool r.spawn)/\X.cell? ⟨bR,m*9+2,none⟩=some (.int .i64 0)/\X.cell? ⟨bR,m*9+3,none⟩=some (.int .i64 r.time)/\X.cell? ⟨bR,m*9+4,none⟩=some (.int .i64 1)/\X.cell? ⟨bR,m*9+5,none⟩=some (.int .i64 r.of_)/\X.cell? ⟨bR,m*9+6,none⟩=some (.slice p.at_ r.take.length p.ct)/\X.cell? ⟨bR,m*9+7,none⟩=some (.slice p.ag r.give.length p.cg)/\X.cell? ⟨bR,m*9+8,none⟩=some (.slice p.ab r.back.length p.cb)) (by kernel_rfl) (⟨x1,y0,y1,y2,y3,y4,y5,y6,y7,y8⟩) (fun hHeld=> ?_);refine kU 0 73 ?_;refine kU 1 74 ?_;refine kU 2 75 ?_;refine kU 3 76 ?_;refine kU 4 77 ?_;refine kU 5 78 ?_;refine kU 6 79 ?_;refine qQG [7,10] (by kernel_rfl) (by simp) ⟨qEM 7 rfl (fun K hK=> ?_),qEM 10 rfl (fun K hK=> ?_),trivial⟩
       ·go_simp
        refine hpk.mono ?_;clear hpk;rintro e w8 ⟨rfl,rfl⟩;simp only[];refine hK.out _ _ hHeld (fun hHeld=> ?_);clear hK K
        try simp only[Act.put,sX1,sX2,sX3]
        refine kU 8 81 ?_;refine kU 9 82 ?_;refine qA2 10 (by kernel_rfl) rfl (fun K hK=> ?_);go_simp;obtain⟨w9,hw9⟩:=eX ((wb.alloc (.cells #[.string ⟨#[]⟩,.bool false,.int .i64 0,.int .i64 0,.int .i64 0,.int .i64 0,.slice none 0 0,.slice none 0 0,.slice none 0 0] 54)).drew);obtain⟨bx,hbx⟩:=eX wb.heap.size;have hB9:Below wb.heap.size wb w9:=by rw[<-hw9];exact aR.drew
        have HZ:Hid (qAf w9 bx 54 [.string ⟨#[]⟩,.bool false,.int .i64 0,.int .i64 0,.int .i64 0,.int .i64 0,.slice none 0 0,.slice none 0 0,.slice none 0 0]):=hZ (by rw[<-hw9,<-hbx];exact(qAf.new _ _ _).drew);rw[hw9,hbx];have mv:∀o v,wb.cell? ⟨bR,o,none⟩=some v->w9.cell? ⟨bR,o,none⟩=some v:=fun o _ h=>(hB9.cell (p:=⟨bR,o,none⟩) hbR).trans h;have HS9:Hid (w9.cell? ⟨bc,1,none⟩=some (.slice (some ⟨bR,0,none⟩) nr cr)/\w9.cell? ⟨bR,m*9,none⟩=some (.string ⟨r.name.toArray⟩)/\w9.cell? ⟨bR,m*9+1,none⟩=some (.bool r.spawn)/\w9.cell? ⟨bR,m*9+2,none⟩=some (.int .i64 0)/\w9.cell? ⟨bR,m*9+3,none⟩=some (.int .i64 r.time)/\w9.cell? ⟨bR,m*9+4,none⟩=some (.int .i64 1)/\w9.cell? ⟨bR,m*9+5,none⟩=some (.int .i64 r.of_)/\w9.cell? ⟨bR,m*9+6,none⟩=some (.slice p.at_ r.take.length p.ct)/\w9.cell? ⟨bR,m*9+7,none⟩=some (.slice p.ag r.give.length p.cg)/\w9.cell? ⟨bR,m*9+8,none⟩=some (.slice p.ab r.back.length p.cb)):=hZ ⟨(hB9.cell (p:=⟨bc,1,none⟩) xl).trans x1,mv _ _ y0,mv _ _ y1,mv _ _ y2,mv _ _ y3,mv _ _ y4,mv _ _ y5,mv _ _ y6,mv _ _ y7,mv _ _ y8⟩;have HB9:=hZ hB9;have hbxc:bc<bx/\bR<bx:=by omega
        have HBX:=hZ (show wb.heap.size=bx from hbx);clear hHeld mv hw9 hbx hB9 x1 y0 y1 y2 y3 y4 y5 y6 y7 y8;refine hK.out _ _ HS9.o (fun hHeld=> ?_);clear hK K
        try simp only[Act.put,sX1,sX2,sX3]
        have z0:=HZ.o.cell 0;have z1:=HZ.o.cell 1;have z2:=HZ.o.cell 2;have z3:=HZ.o.cell 3;have z4:=HZ.o.cell 4;have z5:=HZ.o.cell 5;have z6:=HZ.o.cell 6;have z7:=HZ.o.cell 7;have z8:=HZ.o.cell 8;have zf:=HZ.o.frozen;simp only[List.getElem?_cons_succ,List.getElem?_cons_zero]at z0 z1 z2 z3 z4 z5 z6 z7 z8;clear hHeld;refine qA2 11 (by kernel_rfl) rfl (fun K hK=> ?_);go_simp;clear z0 z1 z2 z3 z4 z5 z6 z7 z8 zf;have hset:=HZ.o.set9 (.string ⟨r.name.toArray⟩) (.bool r.spawn) (.int .i64 0) (.int .i64 r.time) (.int .i64 1) (.int .i64 r.of_) (.slice p.at_ r.take.length p.ct) (.slice p.ag r.give.length p.cg) (.slice p.ab r.back.length p.cb);have hon:=qIy w9 bx (.string ⟨r.name.toArray⟩) (.bool r.spawn) (.int .i64 0) (.int .i64 r.time) (.int .i64 1) (.int .i64 r.of_) (.slice p.at_ r.take.length p.ct) (.slice p.ag r.give.length p.cg) (.slice p.ab r.back.length p.cb);obtain⟨w10,hw10⟩:=eX (qRc w9 bx (.string ⟨r.name.toArray⟩) (.bool r.spawn) (.int .i64 0) (.int .i64 r.time) (.int .i64 1) (.int .i64 r.of_) (.slice p.at_ r.take.length p.ct) (.slice p.ag r.give.length p.cg) (.slice p.ab r.back.length p.cb));rw[hw10]at hset hon;have HST:=hZ hset;have HB10:Hid (Below wb.heap.size wb w10):=hZ (hon.below HB9.o HB9.o.size (fun q hq=>by have:=HBX.o;omega));have mv:∀o v,w9.cell? ⟨bR,o,none⟩=some v->w10.cell? ⟨bR,o,none⟩=some v:=fun o _ h=>(hon.cell (p:=⟨bR,o,none⟩) (by show ¬bR=bx;omega) (World.block_lt_of_cell? w9 _ h)).trans h;obtain⟨t1,t2,t3,t4,t5,t6,t7,t8,t9,t10⟩:=HS9.o;have HS10:Hid (w10.cell? ⟨bc,1,none⟩=some (.slice (some ⟨bR,0,none⟩) nr cr)/\w10.cell? ⟨bR,m*9,none⟩=some (.string ⟨r.name.toArray⟩)/\w10.cell? ⟨bR,m*9+1,none⟩=some (.bool r.spawn)/\w10.cell? ⟨bR,m*9+2,none⟩=some (.int .i64 0)/\w10.cell? ⟨bR,m*9+3,none⟩=some (.int .i64 r.time)/\w10.cell? ⟨bR,m*9+4,none⟩=some (.int .i64 1)/\w10.cell? ⟨bR,m*9+5,none⟩=some (.int .i64 r.of_)/\w10.cell? ⟨bR,m*9+6,none⟩=some (.slice p.at_ r.take.length p.ct)/\w10.cell? ⟨bR,m*9+7,none⟩=some (.slice p.ag r.give.length p.cg)/\w10.cell? ⟨bR,m*9+8,none⟩=some (.slice p.ab r.back.length p.cb)):=hZ ⟨(hon.cell (p:=⟨bc,1,none⟩) (by show ¬bc=bx;omega) (World.block_lt_of_cell? w9 _ t1)).trans t1,mv _ _ t2,mv _ _ t3,mv _ _ t4,mv _ _ t5,mv _ _ t6,mv _ _ t7,mv _ _ t8,mv _ _ t9,mv _ _ t10⟩;clear mv t1 t2 t3 t4 t5 t6 t7 t8 t9 t10 hset hon;unfold qRc at hw10;rw[hw10];clear hw10;refine hK.out _ _ HS10.o (fun hHeld=> ?_);clear hK K
        try simp only[Act.put,sX1,sX2,sX3]
        refine qGK (by kernel_rfl) ?_ _;clear hHeld
        go_wp2_with fail
        go_meet
        case rel=>exact⟨bx,rfl,HST,HB10⟩
       ·go_simp
        obtain⟨w9,hw9⟩:=eX ((wb.alloc (.cells #[.string ⟨#[]⟩,.bool false,.int .i64 0,.int .i64 0,.int .i64 0,.int .i64 0,.slice none 0 0,.slice none 0 0,.slice none 0 0] 54)).drew);obtain⟨bx,hbx⟩:=eX wb.heap.size;have hB9:Below wb.heap.size wb w9:=by rw[<-hw9];exact aR.drew
        have HZ:Hid (qAf w9 bx 54 [.string ⟨#[]⟩,.bool false,.int .i64 0,.int .i64 0,.int .i64 0,.int .i64 0,.slice none 0 0,.slice none 0 0,.slice none 0 0]):=hZ (by rw[<-hw9,<-hbx];exact(qAf.new _ _ _).drew);rw[hw9,hbx];have mv:∀o v,wb.cell? ⟨bR,o,none⟩=some v->w9.cell? ⟨bR,o,none⟩=some v:=fun o _ h=>(hB9.cell (p:=⟨bR,o,none⟩) hbR).trans h;have HS9:Hid (w9.cell? ⟨bc,1,none⟩=some (.slice (some ⟨bR,0,none⟩) nr cr)/\w9.cell? ⟨bR,m*9,none⟩=some (.string ⟨r.name.toArray⟩)/\w9.cell? ⟨bR,m*9+1,none⟩=some (.bool r.spawn)/\w9.cell? ⟨bR,m*9+2,none⟩=some (.int .i64 0)/\w9.cell? ⟨bR,m*9+3,none⟩=some (.int .i64 r.time)/\w9.cell? ⟨bR,m*9+4,none⟩=some (.int .i64 1)/\w9.cell? ⟨bR,m*9+5,none⟩=some (.int .i64 r.of_)/\w9.cell? ⟨bR,m*9+6,none⟩=some (.slice p.at_ r.take.length p.ct)/\w9.cell? ⟨bR,m*9+7,none⟩=some (.slice p.ag r.give.length p.cg)/\w9.cell? ⟨bR,m*9+8,none⟩=some (.slice p.ab r.back.length p.cb)):=hZ ⟨(hB9.cell (p:=⟨bc,1,none⟩) xl).trans x1,mv _ _ y0,mv _ _ y1,mv _ _ y2,mv _ _ y3,mv _ _ y4,mv _ _ y5,mv _ _ y6,mv _ _ y7,mv _ _ y8⟩;have HB9:=hZ hB9;have hbxc:bc<bx/\bR<bx:=by omega
        have HBX:=hZ (show wb.heap.size=bx from hbx);clear hHeld mv hw9 hbx hB9 x1 y0 y1 y2 y3 y4 y5 y6 y7 y8;refine hK.out _ _ HS9.o (fun hHeld=> ?_);clear hK K
        try simp only[Act.put,sX1,sX2,sX3]
        refine qA2 7 (by kernel_rfl) rfl (fun K hK=> ?_);go_simp;refine(qDs v3 zs3 n3 t nr w9 ((H3.o.below (Nat.le_refl _) HB.o).below (Nat.le_refl _) HB9.o) (by omega) (by omega) (by omega)).mono ?_;rintro e w8 ⟨rfl,rfl⟩;obtain⟨w9,rfl⟩:=eY w8;rw[HPM.o];simp only[];refine hK.out _ _ hHeld (fun hHeld=> ?_);clear hK K
        try simp only[Act.put,sX1,sX2,sX3]
        refine kU 8 81 ?_;refine kU 9 82 ?_;have z0:=HZ.o.cell 0;have z1:=HZ.o.cell 1;have z2:=HZ.o.cell 2;have z3:=HZ.o.cell 3;have z4:=HZ.o.cell 4;have z5:=HZ.o.cell 5;have z6:=HZ.o.cell 6;have z7:=HZ.o.cell 7;have z8:=HZ.o.cell 8;have zf:=HZ.o.frozen;simp only[List.getElem?_cons_succ,List.getElem?_cons_zero]at z0 z1 z2 z3 z4 z5 z6 z7 z8;clear hHeld;refine qA2 11 (by kernel_rfl) rfl (fun K hK=> ?_);go_simp;clear z0 z1 z2 z3 z4 z5 z6 z7 z8 zf;have hset:=HZ.o.set9 (.string ⟨r.name.toArray⟩) (.bool r.spawn) (.int .i64 0) (.int .i64 r.time) (.int .i64 1) (.int .i64 r.of_) (.slice p.at_ r.take.length p.ct) (.slice p.ag r.give.length p.cg) (.slice p.ab r.back.length p.cb);have hon:=qIy w9 bx (.string ⟨r.name.toArray⟩) (.bool r.spawn) (.int .i64 0) (.int .i64 r.time) (.int .i64 1) (.int .i64 r.of_) (.slice p.at_ r.take.length p.ct) (.slice p.ag r.give.length p.cg) (.slice p.ab r.back.length p.cb);obtain⟨w10,hw10⟩:=eX (qRc w9 bx (.string ⟨r.name.toArray⟩) (.bool r.spawn) (.int .i64 0) (.int .i64 r.time) (.int .i64 1) (.int .i64 r.of_) (.slice p.at_ r.take.length p.ct) (.slice p.ag r.give.length p.cg) (.slice p.ab r.back.length p.cb));rw[hw10]at hset hon;have HST:=hZ hset;have HB10:Hid (Below wb.heap.size wb w10):=hZ (hon.below HB9.o HB9.o.size (fun q hq=>by have:=HBX.o;omega));have mv:∀o v,w9.cell? ⟨bR,o,none⟩=some v->w10.cell? ⟨bR,o,none⟩=some v:=fun o _ h=>(hon.cell (p:=⟨bR,o,none⟩) (by show ¬bR=bx;omega) (World.block_lt_of_cell? w9 _ h)).trans h;obtain⟨t1,t2,t3,t4,t5,t6,t7,t8,t9,t10⟩:=HS9.o;have HS10:Hid (w10.cell? ⟨bc,1,none⟩=some (.slice (some ⟨bR,0,none⟩) nr cr)/\w10.cell? ⟨bR,m*9,none⟩=some (.string ⟨r.name.toArray⟩)/\w10.cell? ⟨bR,m*9+1,none⟩=some (.bool r.spawn)/\w10.cell? ⟨bR,m*9+2,none⟩=some (.int .i64 0)/\w10.cell? ⟨bR,m*9+3,none⟩=some (.int .i64 r.time)/\w10.cell? ⟨bR,m*9+4,none⟩=some (.int .i64 1)/\w10.cell? ⟨bR,m*9+5,none⟩=some (.int .i64 r.of_)/\w10.cell? ⟨bR,m*9+6,none⟩=some (.slice p.at_ r.take.length p.ct)/\w10.cell? ⟨bR,m*9+7,none⟩=some (.slice p.ag r.give.length p.cg)/\w10.cell? ⟨bR,m*9+8,none⟩=some (.slice p.ab r.back.length p.cb)):=hZ ⟨(hon.cell (p:=⟨bc,1,none⟩) (by show ¬bc=bx;omega) (World.block_lt_of_cell? w9 _ t1)).trans t1,mv _ _ t2,mv _ _ t3,mv _ _ t4,mv _ _ t5,mv _ _ t6,mv _ _ t7,mv _ _ t8,mv _ _ t9,mv _ _ t10⟩;clear mv t1 t2 t3 t4 t5 t6 t7 t8 t9 t10 hset hon;unfold qRc at hw10;rw[hw10];clear hw10;refine hK.out _ _ HS10.o (fun hHeld=> ?_);clear hK K
        try simp only[Act.put,sX1,sX2,sX3]
        refine qGK (by kernel_rfl) ?_ _;clear hHeld
        go_wp2_with fail
        go_meet
        case rel=>exact⟨bx,rfl,HST,HB10⟩
      case rest=>
       clear x0 x1 x2 x3 y0 y1 y2 y3 y4 y5 y6 y7 y8 hpk;obtain⟨bx,rfl,HST,HB9⟩:=hcut;obtain⟨w9,rfl⟩:=eY wc;have HGR:Hid (qD2 ni r):=hZ (by
        obtain⟨h9,e9⟩:=HRE.o;rw[<-HNI.o,<-e9];exact HF.o.good.each _ (List.getElem_mem h9))
       have hB9:=HB9.o;have hpk:=qDs v3 zs3 n3 (t+1) 3 w9.drew ((H3.o.below (Nat.le_refl _) HB.o).below (Nat.le_refl _) hB9.drew) (by omega) (by omega) (by omega);have e1:((t+1:Nat):Int)=(t:Int)+1:=by omega
       rw[e1]at hpk;generalize qDI zs3 n3 (t+1) 3=z at hpk;clear e1;have W1:IntKind.i64.wrap ((t:Int)+1)=(t:Int)+1:=IntWalk.i64_in _ (by omega)
       go_upto_region 15 with fail
       go_cut [17]from 63 to 105 (fun s17 wc=>∃(g9 c9:Nat) (fl:Bool),s17=.slice (some ⟨g9,0,none⟩) ni c9/\Hid (qAg wc (.slice (some ⟨g9,0,none⟩) ni c9) (qBO ni (qGx f2 r fl)))/\Hid (fl=true->1<r.of_)/\Hid (qAf wc bx 54 [.string ⟨r.name.toArray⟩,.bool r.spawn,.int .i64 0,.int .i64 r.time,.int .i64 1,.int .i64 r.of_,.slice p.at_ r.take.length p.ct,.slice p.ag r.give.length p.cg,.slice p.ab r.back.length p.cb])/\Hid (Below wb.heap.size wb wc))
       case first=>
        obtain⟨fl,hfl⟩:=eX (decide ((1:Int)<(r.of_:Int)));have hfl2:decide (1<r.of_)=fl:=by rw[<-hfl];exact decide_eq_decide.2 (by omega)
        refine qBQ 99 (fun X=>X.cell? ⟨bx,0,none⟩=some (.string ⟨r.name.toArray⟩)/\X.cell? ⟨bx,1,none⟩=some (.bool r.spawn)/\X.cell? ⟨bx,2,none⟩=some (.int .i64 0)/\X.cell? ⟨bx,3,none⟩=some (.int .i64 r.time)/\X.cell? ⟨bx,4,none⟩=some (.int .i64 1)/\X.cell? ⟨bx,5,none⟩=some (.int .i64 r.of_)/\X.cell? ⟨bx,6,none⟩=some (.slice p.at_ r.take.length p.ct)/\X.cell? ⟨bx,7,none⟩=some (.slice p.ag r.give.length p.cg)/\X.cell? ⟨bx,8,none⟩=some (.slice p.ab r.back.length p.cb)) (by kernel_rfl) (HST.o.all9) (fun hHeld=> ?_);refine kU 0 83 ?_;refine kU 1 84 ?_;refine kU 2 85 ?_;refine kU 3 86 ?_;refine kU 4 87 ?_;have HBd:=hZ hB9.drew;have HSTd:=hZ HST.o.drew;refine qA2 5 (by kernel_rfl) rfl (fun K hK=> ?_);go_simp
        try rw[W1]
        refine hpk.mono ?_;clear hpk W1;rintro e w8 ⟨rfl,rfl⟩;generalize w9.drew=wd at HBd HSTd ⊢;simp only[];refine hK.out _ _ HSTd.o.all9 (fun hHeld=> ?_);clear hK K
        try simp only[Act.put,sX1,sX2,sX3]
        by_cases hz:z=0
        ·rw[hz]
         clear hz;have HOF:Hid (fl=true->1<r.of_):=hZ (fun h=>by rw[<-hfl2]at h;exact of_decide_eq_true h);refine kU 6 89 ?_;refine kU 7 90 ?_;refine kU 8 91 ?_;refine kU 9 92 ?_;refine kU 10 93 ?_;refine kU 11 94 ?_;refine kU 12 95 ?_;clear hfl hfl2;refine kU 13 96 ?_;refine qA2 14 (by kernel_rfl) rfl (fun K hK=> ?_);go_simp;refine(qBZ wd _ r p ni f2 (fl) (HNow.o.below HBd.o) (HRI.o.below HBd.o) HGR.o (fun i=>by have:=HF2.o i;omega) (by omega) hn1).mono ?_;rintro e w10 ⟨⟨g9,c9,rfl,hnx⟩,hB⟩;have HNX:=hZ hnx;have HB10:=hZ (HBd.o.trans (hB.mono HBd.o.size));have HST10:=hZ (HSTd.o.below hB HSTd.o.lt);clear hnx hB;simp only[];refine hK.out _ _ (HST10.o.all9) (fun hHeld=> ?_);clear hK K
         try simp only[Act.put,sX1,sX2,sX3]
         refine kU 15 17 ?_;refine qGK (by kernel_rfl) ?_ _;clear hHeld
         go_wp2_with fail
         go_meet
         case rel=>exact⟨g9,c9,fl,rfl,HNX,hZ (fun h=>HOF.o h),HST10,HB10⟩
        ·have f0:(z==0)=false:=by rw[beq_eq_false_iff_ne];exact hz
         have HOF:Hid (false=true->1<r.of_):=hZ (fun h=>by cases h);clear hfl hfl2;refine kU 6 89 ?_;clear f0 hz;refine kU 7 90 ?_;refine jU 8 91 ?_;refine jU 9 92 ?_;refine jU 10 93 ?_;refine jU 11 94 ?_;refine jU 12 95 ?_;refine kU 13 96 ?_;refine qA2 14 (by kernel_rfl) rfl (fun K hK=> ?_);go_simp;refine(qBZ wd _ r p ni f2 (false) (HNow.o.below HBd.o) (HRI.o.below HBd.o) HGR.o (fun i=>by have:=HF2.o i;omega) (by omega) hn1).mono ?_;rintro e w10 ⟨⟨g9,c9,rfl,hnx⟩,hB⟩;have HNX:=hZ hnx;have HB10:=hZ (HBd.o.trans (hB.mono HBd.o.size));have HST10:=hZ (HSTd.o.below hB HSTd.o.lt);clear hnx hB;simp only[];refine hK.out _ _ (HST10.o.all9) (fun hHeld=> ?_);clear hK K
         try simp only[Act.put,sX1,sX2,sX3]
         refine kU 15 17 ?_;refine qGK (by kernel_rfl) ?_ _;clear hHeld
         go_wp2_with fail
         go_meet
         case rel=>exact⟨g9,c9,false,rfl,HNX,hZ (fun h=>HOF.o h),HST10,HB10⟩
       case rest=>
        clear HST hB9 hpk HB9 W1;obtain⟨g9,c9,fl,rfl,HNX,HOF,HST,HB9⟩:=hcut;obtain⟨w9,rfl⟩:=eY wc;have hB:=HB9.o;replace HB:=bT HB hB;replace HC:=hZ (HC.o.below hB);replace HX:=hZ (HX.o.below hB)
        try replace MA:=hZ (MA.o.below hB)
        try replace HBag:=hZ (HBag.o.below hB HBag.o.lt)
        try replace HNow:=hZ (HNow.o.below hB)
        try replace H5:=bT H5 hB
        clear hB;have y1:=HST.o.cell 1;simp only[List.getElem?_cons_succ,List.getElem?_cons_zero]at y1;have HF3:Hid (∀i,0<=f2 i/\f2 i<=29+60*((t+1:Nat):Int)):=hZ (fun i=>by have:=HF2.o i;omega);cases hsp:r.spawn with
        |true=>
         rw[hsp]at y1;clear hsp
         go_wp2_with fail
         go_roundw
         case rel=>exact⟨t+1,g,cp,f2,by omega,by go_num,rfl,HNow,HF3,HD2,HC,HX,MA,HBag,HB,H5⟩
         case measure=>simp[intOf];omega
        |false=>
         rw[hsp]at y1;have HSP:=hZ hsp;have HSR:Hid (∀i,(qBE r.take (qFc r fl) i).natAbs<=60):=hZ (fun i=>by
          obtain⟨h9,e9⟩:=HRE.o;obtain⟨g1,g2,g3⟩:=HS.o r (by rw[<-e9];exact List.getElem_mem h9);cases fl
          ·exact qDY g1 g2 i
          ·exact qDY g1 g3 i)
         have hle:=qNl w9 _ _ HNX.o (fun x hx=>by
          unfold qBO at hx;obtain⟨i, -,rfl⟩:=List.mem_map.1 hx;have a1:=HF2.o i;have a2:=HSR.o i;unfold qGx;omega)
         clear hsp
         go_wp2_with fail
         refine hle.mono ?_;clear hle;rintro e w8 ⟨⟨z,rfl,hz1,hz2,hz3⟩,hw8⟩;subst hw8;by_cases hzn:z<0
         ·clear hz1 hz2 hz3
          go_wp2_with fail
          clear hzn;go_roundw
          case rel=>exact⟨t+1,g,cp,f2,by omega,by go_num,rfl,HNow,HF3,HD2,HC,HX,MA,HBag,HB,H5⟩
          case measure=>simp[intOf];omega
         ·have HZ3:=hZ (hz3 (by omega))
          have HF4:Hid (∀i,0<=qGL ni (qGx f2 r fl) i/\qGL ni (qGx f2 r fl) i<=29+60*((t+1:Nat):Int)):=hZ (fun i=>by
           unfold qGL;by_cases hi:i<ni
           ·rw[if_pos hi]
            have a0:=HZ3.o (qGx f2 r fl i) (List.mem_map.2 ⟨i,List.mem_range.2 hi,rfl⟩);have a1:=HF2.o i;have a2:=HSR.o i;unfold qGx at a0 ⊢;omega
           ·rw[if_neg hi]
            omega)
          have HD4:Hid (∀x∈K,qBI x (qGL ni (qGx f2 r fl)) ni=qBI x f ni):=hZ (fun x hx=>by
           obtain⟨h9,e9⟩:=HRE.o;have hl:=HBA.o.law HF.o.good.some_ (by have:=HNI.o;omega) hx _ (qQN (fails:=fl) h9 (by rw[e9];exact HSP.o) (by rw[e9];exact HOF.o));rw[e9,HNI.o]at hl;rw[qPr,qJ6,hl,HD2.o x hx,Int.add_zero])
          have HN4:Hid (qAg w9 (.slice (some ⟨g9,0,none⟩) ni c9) (qBO ni (qGL ni (qGx f2 r fl)))):=hZ (by rw[qPq];exact HNX.o);clear hz1 hz2 hz3
          go_wp2_with fail
          clear hzn;go_roundw
          case rel=>exact⟨t+1,g9,c9,qGL ni (qGx f2 r fl),by omega,by go_num,rfl,HN4,HF4,HD4,HC,HX,MA,HBag,HB,H5⟩
          case measure=>simp[intOf];omega
     ·have HF3:Hid (∀i,0<=f2 i/\f2 i<=1229):=hZ (fun i=>by have:=HF2.o i;omega)
      by_cases ht2:t<20
      ·have q1:decide ((t:Int)<20)=true:=decide_eq_true (by omega)
       have q2:decide ((0:Int)<(nr:Int))=false:=decide_eq_false (by omega);have q3:decide (0<nr)=false:=decide_eq_false (by omega);have q4:decide (t<20)=true:=decide_eq_true ht2;clear hgo ht2
       go_wp2_with fail
       clear q1 q2 q3 q4
       go_meet
       case rel=>exact⟨g,cp,f2,rfl,HNow,HF3,HD2,HC,HX,MA,HBag,HB,H5⟩
      ·have q1:decide ((t:Int)<20)=false:=decide_eq_false (by omega)
       have q4:decide (t<20)=false:=decide_eq_false ht2;clear hgo ht2
       go_wp2_with fail
       clear q1 q4
       go_meet
       case rel=>exact⟨g,cp,f2,rfl,HNow,HF3,HD2,HC,HX,MA,HBag,HB,H5⟩
   case rest=>
    clear HNow HC HX MA HBag HB H5;obtain⟨g,cp,f2,rfl,HNow,HF2,HD2,HC,HX,MA,HBag,HB,H5⟩:=hcut;obtain⟨wb,rfl⟩:=eY wc
    go_wp2_with fail
    go_loopw [18] (fun iv wr=>∃i:Nat,i<=na/\iv=.int .i64 i/\Hid (qAg wr (.slice (some ⟨g,0,none⟩) ni cp) (qBO ni f2))/\Hid (qAS wr (.slice ai ni ci) (.slice ar nr cr) c)/\Hid (qBw wr bc (.slice ai ni ci) (.slice ar nr cr))/\Hid (qA8 wr (.slice aa na ca) K)/\Hid (qAf wr gb 3 (qBa ni f))/\Hid (Below w.heap.size w wr)/\Hid (Below w5.heap.size w5 wr)) (fun iv _=>na-(intOf iv).toNat)
    case atStart=>exact⟨0,by omega,rfl,HNow,HC,HX,MA,HBag,HB,H5⟩
    case round=>
     clear HNow HC HX MA HBag HB H5;obtain⟨i,hi,rfl,HNow,HC,HX,MA,HBag,HB,H5⟩:=hrel;obtain⟨wl,rfl⟩:=eY wr;by_cases hlt:i<na
     ·have i1:(0:Int)<=(i:Int):=by omega
      have i2:(i:Int)<(na:Int):=by omega
      have hik:i<K.length:=by have:=HNA.o;omega
      obtain⟨ba,cpa,ar2,cr2,hva,hba,hca,hri, -,-⟩:=MA.o.at_ i hik;injection hva with e1 e2 e3;subst e1;clear e2 e3;have hmem:K[i]∈K:=List.getElem_mem hik;have HR64:=hZ (qQ1 HBA.o _ hmem);have HHL:=hZ (HBA.o.row _ hmem);have HDR:=hZ (HD2.o _ hmem);have HTP:=hZ (HBA.o.top _ hmem);obtain⟨r,hr⟩:=eX (K[i]);rw[hr]at hca hri HR64 HHL HDR HTP;replace HHL:Hid (r.length=ni):=hZ (by rw[HHL.o];exact HNI.o);rw[HHL.o]at hca hri;have HR:=hZ hri;have HA2:=hZ hca;have hv1:qJq r (qBO ni f)=.tuple #[.int .i64 (qBI r f ni),.int .i64 0]:=by
       unfold qJq;rw[qFx HHL.o (fun x hx=>by have:=HTP.o x hx;unfold topE at this;omega) (fun i _=>by have:=HFB.o i;omega) (by omega)]
      have hv2:qJq r (qBO ni f2)=.tuple #[.int .i64 (qBI r f ni),.int .i64 0]:=by
       unfold qJq;rw[qFx HHL.o (fun x hx=>by have:=HTP.o x hx;unfold topE at this;omega) (fun i _=>by have:=HF2.o i;omega) (by omega),HDR.o]
      generalize qBI r f ni=z at hv1 hv2;have HV1:=hZ hv1;have HV2:=hZ hv2;have HE1:Hid (B64 (qBO ni f)):=hZ (fun x hx=>by
       unfold qBO at hx;obtain⟨i, -,rfl⟩:=List.mem_map.1 hx;have:=HFB.o i;omega)
      have HE2:Hid (B64 (qBO ni f2)):=hZ (fun x hx=>by
       unfold qBO at hx;obtain⟨i, -,rfl⟩:=List.mem_map.1 hx;have:=HF2.o i;omega)
      have HIB:Hid (qAg wl (.slice (some ⟨gb,0,none⟩) ni ni) (qBO ni f)):=hZ (by have h9:=HBag.o;rw[<-List.append_nil (qBa ni f)]at h9;exact qCq h9 (Nat.le_refl _) (by omega));clear hr hri hmem hv1 hv2 HTP HDR
      go_wp2_with fail
      refine(qBT _ _ r _ wl HR.o HIB.o HR64.o HE1.o (by rw[qAz];omega)).mono ?_;rw[HV1.o];rintro e w7 ⟨rfl,hB⟩;replace HA2:=hZ ((hB.cell (p:=⟨ba,i,none⟩) (World.block_lt_of_cell? wl _ HA2.o)).trans HA2.o);replace HR:=hZ (HR.o.below hB);clear HIB hca;replace HB:=bT HB hB;replace HC:=hZ (HC.o.below hB);replace HX:=hZ (HX.o.below hB)
      try replace MA:=hZ (MA.o.below hB)
      try replace HBag:=hZ (HBag.o.below hB HBag.o.lt)
      try replace HNow:=hZ (HNow.o.below hB)
      try replace H5:=bT H5 hB
      clear hB;have hca:=HA2.o
      go_wp2_with fail
      refine(qBT _ _ r _ w7 HR.o HNow.o HR64.o HE2.o (by rw[qAz];omega)).mono ?_;rw[HV2.o];rintro e w8 ⟨rfl,hB⟩;clear hca HA2 HR;replace HB:=bT HB hB;replace HC:=hZ (HC.o.below hB);replace HX:=hZ (HX.o.below hB)
      try replace MA:=hZ (MA.o.below hB)
      try replace HBag:=hZ (HBag.o.below hB HBag.o.lt)
      try replace HNow:=hZ (HNow.o.below hB)
      try replace H5:=bT H5 hB
      clear hB
      go_wp2_with fail
      go_roundw
      case rel=>exact⟨i+1,by omega,by go_num,HNow,HC,HX,MA,HBag,HB,H5⟩
      case measure=>simp[intOf];omega
     ·have i3:¬(i:Int)<(na:Int):=by omega
      clear hlt;have x0:=HX.o.c0;have x1:=HX.o.c1;have x2:=HX.o.c2;have x3:=HX.o.c3;have xl:=HX.o.lt
      go_wp2_with fail
      refine(qH8 v3 zs3 n3 ni wl (H3.o.below (Nat.le_refl _) HB.o) (by omega)).mono ?_;rintro e w7 ⟨hB,au,l,rfl,hau,hu,hul,hub⟩;have HUA:Hid (gb<au):=hZ (Nat.lt_of_lt_of_le HBag.o.lt hau);have HU:=hZ hu;have HUL:=hZ hul;have HUB:=hZ hub;clear hu hul hub hau i3 x0 x1 x2 x3 xl;replace HB:=bT HB hB;replace HC:=hZ (HC.o.below hB);replace HX:=hZ (HX.o.below hB)
      try replace MA:=hZ (MA.o.below hB)
      try replace HBag:=hZ (HBag.o.below hB HBag.o.lt)
      try replace HNow:=hZ (HNow.o.below hB)
      try replace H5:=bT H5 hB
      clear hB;have x0:=HX.o.c0;have x1:=HX.o.c1;have x2:=HX.o.c2;have x3:=HX.o.c3;have xl:=HX.o.lt;have HL64:Hid (B64 l):=hZ (fun x hx=>by have:=HUB.o x hx;omega);have hbk:=qHd _ _ _ c l w7 HC.o HF.o (qAg.lit HU.o HUL.o (by omega)) HL64.o (HK.o.keep HB.o);obtain⟨bi,bz,bt,hbr⟩:∃i z t,qOi c l=(i,z,t):=⟨_,_,_,rfl⟩;rw[hbr]at hbk;unfold qRZ at hbk;have HBR:Hid (qH5 c.items.length l (qC4 c)=(bi,bz,bt)):=hZ (by
       rw[<-hbr];unfold qOi;rw[if_pos (by rw[HUL.o,HNI.o])])
      clear hbr
      go_wp2_with fail
      refine hbk.mono ?_;clear hbk;rintro e w8 ⟨rfl,hB⟩;replace HU:=hZ (HU.o.below hB HU.o.lt);clear x0 x1 x2 x3 xl;replace HB:=bT HB hB;replace HC:=hZ (HC.o.below hB);replace HX:=hZ (HX.o.below hB)
      try replace MA:=hZ (MA.o.below hB)
      try replace HBag:=hZ (HBag.o.below hB HBag.o.lt)
      try replace HNow:=hZ (HNow.o.below hB)
      try replace H5:=bT H5 hB
      clear hB;have x0:=HX.o.c0;have x1:=HX.o.c1;have x2:=HX.o.c2;have x3:=HX.o.c3;have xl:=HX.o.lt;cases bt with
      |false=>
       have hh:qDd c l=true:=qLP.2 ⟨by rw[HUL.o,HNI.o],fun f hf=>by
        obtain⟨x,hx,rfl⟩:=List.mem_map.1 hf;rw[<-qBM];exact qPM HBR.o x hx⟩
       have hho:=callsIn_wide.1 (qIO _ _ _ c l w8 HC.o HF.o (qAg.lit HU.o HUL.o (by omega)) HL64.o (HK.o.keep HB.o));rw[hh]at hho;clear hh
       go_wp2_with fail
       refine hho.mono ?_;clear hho;rintro e w9 ⟨rfl,hB⟩;replace HB:=bT HB hB;replace HC:=hZ (HC.o.below hB);replace HX:=hZ (HX.o.below hB)
       try replace MA:=hZ (MA.o.below hB)
       try replace HBag:=hZ (HBag.o.below hB HBag.o.lt)
       try replace HNow:=hZ (HNow.o.below hB)
       try replace H5:=bT H5 hB
       clear hB
       go_wp2_with fail
       refine(qDx w9 (HK.o.keep HB.o) (HP.o.below HB.o HP.o.lt)).mono ?_;rintro e w10 ⟨rfl,hB⟩;replace HB:=bT HB hB;clear hB
       go_wp2_with fail
       exact bodyPost_ret (v:=.bool true) (by simp[results,Tryz.results10,go_sem]) rfl ⟨rfl,HB.o⟩
      |true=>
       obtain⟨m,hm,e1,hsp,hcase⟩:=qLd c.rules 0 bi bz HBR.o;rw[Nat.zero_add]at e1;subst e1;have hml:m<nr:=by have:=HNR.o;omega
       obtain⟨bR,capR,p,hvR,hbR,hri,hrc⟩:=qA1.at_ HC.o.rules m hm;injection hvR with e1 e2 e3;subst e1;clear e2 e3;have HGR:Hid (qD2 ni c.rules[m]):=hZ (by rw[<-HNI.o];exact HF.o.good.each _ (List.getElem_mem hm));have HSR:=hZ (HS.o _ (List.getElem_mem hm));generalize hre:c.rules[m]=r at hri hrc hsp hcase HGR HSR;have HRE:Hid (∃h:m<c.rules.length,c.rules[m]=r):=hZ ⟨hm,hre⟩;rw[HNI.o]at HSR hcase;have HCA:=hZ hcase;have HRI:=hZ hri;obtain⟨y0,y1,y2,y3,y4,y5,y6,y7,y8⟩:=hrc;rw[hsp]at y1;have i1:(0:Int)<=(m:Int):=by omega
       have i2:(m:Int)<(nr:Int):=by omega
       have q1:decide ((m:Int)<0)=false:=decide_eq_false (by omega);have q2:decide ((nr:Int)<=(m:Int))=false:=decide_eq_false (by omega);have q3:decide (nr<=m)=false:=decide_eq_false (by omega);clear hre hri hm hsp hcase
       go_upto_block 6 with fail
       clear q1 q2 q3 y0 y1 y2 y3 y4 y5 y6 y7 y8 hbR x0 x1 x2 x3 xl
       go_wp2_with fail
       go_loopw [27] (fun iv wr=>∃j:Nat,j<=ni/\iv=.int .i64 j/\Hid (qAf wr gb 3 (qBa ni (fun i=>if i<j then f i+1000 else f i)))/\Hid (qAf wr au 3 (l.map zv))/\Hid (Below w.heap.size w wr)/\Hid (Below w5.heap.size w5 wr)) (fun iv _=>ni-(intOf iv).toNat)
       case atStart=>exact⟨0,by omega,rfl,by simpa using HBag,HU,HB,H5⟩
       case round=>
        clear HNow HC HX MA HBag HU HB H5;obtain⟨j,hj,rfl,HBag,HU,HB,H5⟩:=hrel;obtain⟨wk,rfl⟩:=eY wr;by_cases hlt:j<ni
        ·have j1:(0:Int)<=(j:Int):=by omega
         have j2:(j:Int)<(ni:Int):=by omega
         have y2:=HBag.o.cell j;rw[qBC _ _ _ hlt,if_neg (by omega)]at y2;have y3:=HBag.o.frozen j;have hf1:=HFB.o j;have W1:IntKind.i64.wrap (f j+1000)=f j+1000:=IntWalk.i64_in _ (by omega);obtain⟨w9,hw9⟩:=eX (wk.setCell ⟨gb,j,none⟩ (.int .i64 (f j+1000)));have HBag9:Hid (qAf w9 gb 3 (qBa ni (fun i=>if i<j+1 then f i+1000 else f i))):=hZ (by
          have h9:=HBag.o.set j (.int .i64 (f j+1000));rw[hw9,qB1]at h9;have e9:(fun i=>if i=j then f j+1000 else if i<j then f i+1000 else f i)=(fun i=>if i<j+1 then f i+1000 else f i):=by
           funext i
           by_cases a:i=j
           ·subst a;simp
           ·by_cases b:i<j
            ·rw[if_neg a,if_pos b,if_pos (by omega)]
            ·rw[if_neg a,if_neg b,if_neg (by omega)]
          rw[e9]at h9;exact h9)
         have HU9:Hid (qAf w9 au 3 (l.map zv)):=hZ (by rw[<-hw9];exact HU.o.far (p:=⟨gb,j,none⟩) (by show ¬au=gb;have:=HUA.o;omega) _);have HB9:Hid (Below w.heap.size w w9):=hZ (by rw[<-hw9];exact HB.o.setCell (p:=⟨gb,j,none⟩) hwg _);have H59:Hid (Below w5.heap.size w5 w9):=hZ (by rw[<-hw9];exact H5.o.setCell (p:=⟨gb,j,none⟩) (by rw[HG.o];exact Nat.le_refl _) _);clear hf1
         go_wp2_with fail
         try rw[hw9]
         clear hw9 y2 y3 W1;go_roundw
         case rel=>exact⟨j+1,by omega,by go_num,HBag9,HU9,HB9,H59⟩
         case measure=>simp[intOf];omega
        ·have j3:¬(j:Int)<(ni:Int):=by omega
         obtain⟨f3,hf3⟩:∃F:Nat->Int,(fun i=>if i<ni then f i+1000 else f i)=F:=⟨_,rfl⟩;replace HBag:Hid (qAf wk gb 3 (qBa ni f3)):=hZ (by
          have h9:=HBag.o;rw[show j=ni by omega,hf3]at h9;exact h9)
         have HF3:Hid (∀i,i<ni->1000<=f3 i/\f3 i<=1029):=hZ (fun i hi=>by
          have:=HFB.o i;rw[<-hf3]
          show 1000<=(if i<ni then f i+1000 else f i)/\(if i<ni then f i+1000 else f i)<=1029
          rw[if_pos hi];omega)
         have HF4:Hid (∀i, -1000000000<=f3 i/\f3 i<=1000000000):=hZ (fun i=>by
          have:=HFB.o i;rw[<-hf3]
          show -1000000000<=(if i<ni then f i+1000 else f i)/\(if i<ni then f i+1000 else f i)<=1000000000
          split<;>omega)
         have HC:=hZ (HC5.o.below H5.o);have HX:=hZ (HX5.o.below H5.o);have HE0:Hid (∀i,(qBE r.take (qFc r false) i).natAbs<=60):=hZ (fun i=>qDY HSR.o.1 HSR.o.2.1 i);have HE1:Hid (∀i,(qBE r.take (qFc r true) i).natAbs<=60):=hZ (fun i=>qDY HSR.o.1 HSR.o.2.2 i);have hA:∀i,i<ni->0<=qGx f3 r false i/\qGx f3 r false i<=2000:=fun i hi=>by
          have a1:=HF3.o i hi;have a2:=HE0.o i;unfold qGx;omega
         have hA1:∀i,i<ni->0<=qGx f3 r true i/\qGx f3 r true i<=2000:=fun i hi=>by
          have a1:=HF3.o i hi;have a2:=HE1.o i;unfold qGx;omega
         have HA:=hZ hA;have HA1:=hZ hA1;have HV3:Hid (qJq l (qBO ni f3)=.tuple #[.int .i64 (qBI l f3 ni),.int .i64 0]):=hZ (by
          unfold qJq;rw[qFx HUL.o (fun x hx=>by have:=HUB.o x hx;omega) (fun i hi=>by have:=HF3.o i hi;omega) (by omega)])
         have HVA:Hid (qJq l (qBO ni (qGx f3 r false))=.tuple #[.int .i64 (qBI l f3 ni+qBI l (qBE r.take (qFc r false)) ni),.int .i64 0]):=hZ (by
          unfold qJq;rw[qFx HUL.o (fun x hx=>by have:=HUB.o x hx;omega) (fun i hi=>by have:=HA.o i hi;omega) (by omega),qJ6])
         have HVB:Hid (qJq l (qBO ni (qGx f3 r true))=.tuple #[.int .i64 (qBI l f3 ni+qBI l (qBE r.take (qFc r true)) ni),.int .i64 0]):=hZ (by
          unfold qJq;rw[qFx HUL.o (fun x hx=>by have:=HUB.o x hx;omega) (fun i hi=>by have:=HA1.o i hi;omega) (by omega),qJ6])
         have hd0:=qHS (A:=4) (B:=60) (w:=l) (fun x hx=>by have:=HUB.o x hx;omega) ni (f:=qBE r.take (qFc r false)) (fun i _=>HE0.o i);have hd1:=qHS (A:=4) (B:=60) (w:=l) (fun x hx=>by have:=HUB.o x hx;omega) ni (f:=qBE r.take (qFc r true)) (fun i _=>HE1.o i);have hcase:=HCA.o;generalize qBI l f3 ni=x at HV3 HVA HVB;generalize qBI l (qBE r.take (qFc r false)) ni=d0 at HVA hd0 hcase;generalize qBI l (qBE r.take (qFc r true)) ni=d1 at HVB hd1 hcase;have hz0:qCr d0=d0:=by unfold qCr;rw[if_pos (by omega)]
         have hz1:qCr d1=d1:=by unfold qCr;rw[if_pos (by omega)]
         rw[hz0,hz1]at hcase;have HCS:=hZ hcase;have HD0:Hid (d0.natAbs<=2000):=hZ (by omega);have HD1:Hid (d1.natAbs<=2000):=hZ (by omega);have HIB:Hid (qAg wk (.slice (some ⟨gb,0,none⟩) ni ni) (qBO ni f3)):=hZ (by have h9:=HBag.o;rw[<-List.append_nil (qBa ni f3)]at h9;exact qCq h9 (Nat.le_refl _) (by omega));clear hf3 hA hA1 hd0 hd1 hcase hz0 hz1 HCA
         go_wp2_with fail
         refine(qBT _ _ l _ wk (qAg.lit HU.o HUL.o (by omega)) HIB.o HL64.o (fun x hx=>by
          unfold qBO at hx;obtain⟨i, -,rfl⟩:=List.mem_map.1 hx;have:=HF4.o i;omega) (by rw[qAz];omega)).mono ?_
         rw[HV3.o];rintro e w9 ⟨rfl,hB⟩;replace HU:=hZ (HU.o.below hB HU.o.lt);replace HIB:=hZ (HIB.o.below hB);clear j3;replace HB:=bT HB hB;replace HC:=hZ (HC.o.below hB);replace HX:=hZ (HX.o.below hB)
         try replace MA:=hZ (MA.o.below hB)
         try replace HBag:=hZ (HBag.o.below hB HBag.o.lt)
         try replace HNow:=hZ (HNow.o.below hB)
         try replace H5:=bT H5 hB
         clear hB;have x0:=HX.o.c0;have x1:=HX.o.c1;have x2:=HX.o.c2;have x3:=HX.o.c3;have xl:=HX.o.lt;obtain⟨hm,hre⟩:=HRE.o;obtain⟨bS,capS,pS,hvS,hbS,hriS,hrcS⟩:=qA1.at_ HC.o.rules m hm;injection hvS with e1 e2 e3;injection e1 with e1;injection e1 with e1;rw[hre]at hriS hrcS;rw[<-e1]at hrcS;have HRS:=hZ hriS;obtain⟨y0,y1,y2,y3,y4,y5,y6,y7,y8⟩:=hrcS;clear hm hre hbS hriS e1 e2 e3
         go_wp2_with fail
         refine(qBZ w9 _ r pS ni f3 false HIB.o HRS.o HGR.o HF4.o (by omega) hn1).mono ?_;rintro e w10 ⟨⟨g9,c9,rfl,hnx⟩,hB⟩;have HNX:=hZ hnx;replace HU:=hZ (HU.o.below hB HU.o.lt);replace HIB:=hZ (HIB.o.below hB);clear hnx y0 y1 y2 y3 y4 y5 y6 y7 y8 x0 x1 x2 x3 xl HRS;replace HB:=bT HB hB;replace HC:=hZ (HC.o.below hB);replace HX:=hZ (HX.o.below hB)
         try replace MA:=hZ (MA.o.below hB)
         try replace HBag:=hZ (HBag.o.below hB HBag.o.lt)
         try replace HNow:=hZ (HNow.o.below hB)
         try replace H5:=bT H5 hB
         clear hB
         go_wp2_with fail
         refine(qBT _ _ l _ w10 (qAg.lit HU.o HUL.o (by omega)) HNX.o HL64.o (fun x hx=>by
          unfold qBO at hx;obtain⟨i,hi,rfl⟩:=List.mem_map.1 hx;have:=HA.o i (List.mem_range.1 hi);omega) (by rw[qAz];omega)).mono ?_
         rw[HVA.o];rintro e w11 ⟨rfl,hB⟩;replace HU:=hZ (HU.o.below hB HU.o.lt);replace HIB:=hZ (HIB.o.below hB);clear HNX;replace HB:=bT HB hB;replace HC:=hZ (HC.o.below hB);replace HX:=hZ (HX.o.below hB)
         try replace MA:=hZ (MA.o.below hB)
         try replace HBag:=hZ (HBag.o.below hB HBag.o.lt)
         try replace HNow:=hZ (HNow.o.below hB)
         try replace H5:=bT H5 hB
         clear hB;have x0:=HX.o.c0;have x1:=HX.o.c1;have x2:=HX.o.c2;have x3:=HX.o.c3;have xl:=HX.o.lt;obtain⟨hm,hre⟩:=HRE.o;obtain⟨bS,capS,pS,hvS,hbS,hriS,hrcS⟩:=qA1.at_ HC.o.rules m hm;injection hvS with e1 e2 e3;injection e1 with e1;injection e1 with e1;rw[hre]at hriS hrcS;rw[<-e1]at hrcS;have HRS:=hZ hriS;obtain⟨y0,y1,y2,y3,y4,y5,y6,y7,y8⟩:=hrcS;clear hm hre hbS hriS e1 e2 e3
         go_wp2_with fail
         refine(qBZ w11 _ r pS ni f3 true HIB.o HRS.o HGR.o HF4.o (by omega) hn1).mono ?_;rintro e w12 ⟨⟨g9,c9,rfl,hnx⟩,hB⟩;have HNX:=hZ hnx;replace HU:=hZ (HU.o.below hB HU.o.lt);clear hnx y0 y1 y2 y3 y4 y5 y6 y7 y8 x0 x1 x2 x3 xl HRS HIB;replace HB:=bT HB hB;replace HC:=hZ (HC.o.below hB);replace HX:=hZ (HX.o.below hB)
         try replace MA:=hZ (MA.o.below hB)
         try replace HBag:=hZ (HBag.o.below hB HBag.o.lt)
         try replace HNow:=hZ (HNow.o.below hB)
         try replace H5:=bT H5 hB
         clear hB
         go_wp2_with fail
         refine(qBT _ _ l _ w12 (qAg.lit HU.o HUL.o (by omega)) HNX.o HL64.o (fun x hx=>by
          unfold qBO at hx;obtain⟨i,hi,rfl⟩:=List.mem_map.1 hx;have:=HA1.o i (List.mem_range.1 hi);omega) (by rw[qAz];omega)).mono ?_
         rw[HVB.o];rintro e w13 ⟨rfl,hB⟩;clear HNX HU;replace HB:=bT HB hB;replace HC:=hZ (HC.o.below hB);replace HX:=hZ (HX.o.below hB)
         try replace MA:=hZ (MA.o.below hB)
         try replace HBag:=hZ (HBag.o.below hB HBag.o.lt)
         try replace HNow:=hZ (HNow.o.below hB)
         try replace H5:=bT H5 hB
         clear hB;rcases HCS.o with ⟨hne,e9⟩|⟨h0,hne,e9⟩
         ·subst e9
          have W1:IntKind.i64.wrap (x+bz-x)=bz:=by rw[show x+bz-x=bz by omega];exact IntWalk.i64_in _ (by have:=HD0.o;omega)
          have q1:(bz==bz)=true:=beq_self_eq_true bz;have q2:(bz==0)=false:=by rw[beq_eq_false_iff_ne];exact hne
          have q3:(bz != 0)=true:=by rw[bne_iff_ne];exact hne
          have q4:decide (bz=0)=false:=decide_eq_false hne;have q5:decide (bz≠0)=true:=decide_eq_true hne;clear HCS HVA HVB HD0 HD1
          go_wp2_with fail
          clear q1 q2 q3 q4 q5;refine(qDx w13 (HK.o.keep HB.o) (HP.o.below HB.o HP.o.lt)).mono ?_;rintro e w14 ⟨rfl,hB⟩;replace HB:=bT HB hB;clear hB
          go_wp2_with fail
          exact bodyPost_ret (v:=.bool true) (by simp[results,Tryz.results10,go_sem]) rfl ⟨rfl,HB.o⟩
         ·subst e9
          have W1:IntKind.i64.wrap (x+bz-x)=bz:=by rw[show x+bz-x=bz by omega];exact IntWalk.i64_in _ (by have:=HD1.o;omega)
          have W2:IntKind.i64.wrap (x-x)=0:=by rw[Int.sub_self];exact IntWalk.i64_in _ (by omega)
          have q1:(bz==bz)=true:=beq_self_eq_true bz;have q2:(bz==0)=false:=by rw[beq_eq_false_iff_ne];exact hne
          have q3:(bz != 0)=true:=by rw[bne_iff_ne];exact hne
          have q4:decide (bz=0)=false:=decide_eq_false hne;have q5:decide (bz≠0)=true:=decide_eq_true hne;have q6:(0==bz)=false:=by rw[beq_eq_false_iff_ne];exact fun e=>hne e.symm
          have q7:decide (0=bz)=false:=decide_eq_false (fun e=>hne e.symm);rw[h0,Int.add_zero];clear HCS HVA HVB HD0 HD1 h0
          go_wp2_with fail
          clear q1 q2 q3 q4 q5;refine(qDx w13 (HK.o.keep HB.o) (HP.o.below HB.o HP.o.lt)).mono ?_;rintro e w14 ⟨rfl,hB⟩;replace HB:=bT HB hB;clear hB
          go_wp2_with fail
          exact bodyPost_ret (v:=.bool true) (by simp[results,Tryz.results10,go_sem]) rfl ⟨rfl,HB.o⟩
end Go.Proofs.YtkjhlkngihponaaGreatDoor
