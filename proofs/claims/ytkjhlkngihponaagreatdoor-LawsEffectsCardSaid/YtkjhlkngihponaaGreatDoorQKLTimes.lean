/- worldmintref06.Times. -/
import Derived.Test.YtkjhlkngihponaaGreatDoorQKGFits
import Derived.Laws.EntriesVeiled
import Derived.RegionTactic
import Derived.ChangeAlike
import Derived.Test.YtkjhlkngihponaaGreatDoorQKLRow
import Derived.Laws.MakeOwn
import Derived.Deep.RegionHeld3
import Derived.Test.YtkjhlkngihponaaGreatDoorQKRefWalks
import Derived.OrdersIn
import Derived.Deep.Upon
import Derived.Test.YtkjhlkngihponaaGreatDoorQKGVal
import Derived.BigRegion
import Derived.Test.YtkjhlkngihponaaGreatDoorQKLSmall
import Derived.Test.YtkjhlkngihponaaGreatDoorQKWDivide
import Derived.Test.YtkjhlkngihponaaGreatDoorQKLHerm
set_option linter.unusedVariables false
set_option linter.unusedSimpArgs false
set_option maxHeartbeats 8000000
set_option maxRecDepth 100000
namespace Go.Proofs.YtkjhlkngihponaaGreatDoor
open Go.RowKit
theorem qMh{n:Nat}{r:Rul}(h:qD2 n r):∀i,ofI r.back i<=ofI r.take i:=by
 intro i;rcases h.within with e|e
 ·rw[e];simp[qAR]
 ·rw[e];exact Nat.le_refl _
theorem qPT(r:Rul)(p:Pl)(n bs bc:Nat)(ai:Option Addr)(ci:Nat)(w:World)(hr:qFf w r p)(hg:qD2 n r)(hn:n<=6)(hbs:bs<w.heap.size)(hbc:bc<w.heap.size)(hs:w.cell? ⟨bs,0,none⟩=some (.func (.func 90) #[] #[.pointer (some ⟨bc,0,none⟩)]))(hcb:w.cell? ⟨bc,0,none⟩=some (.slice ai n ci)):
 Calls Tryz.prog 92 #[qGu r p,.pointer (some ⟨bs,0,none⟩)] w fun e w'=>e=.returned (.bool true)/\Below w.heap.size w w':=by
 have HG:=hZ hg;have HR:=hZ hr;obtain⟨rn,rs,rt,ro,lt,lg,lb⟩:=r;unfold qGu;simp only[];obtain⟨w1,hw1⟩:=eX (w.alloc (.cells #[.string ⟨rn.toArray⟩,.bool rs,.int .i64 0,.int .i64 rt,.int .i64 1,.int .i64 ro,.slice p.at_ lt.length p.ct,.slice p.ag lg.length p.cg,.slice p.ab lb.length p.cb] 54));have hB0:Below w.heap.size w w1:=by rw[<-hw1];exact aR
 have HB:=hZ hB0;have HX:Hid (qDF w1 w.heap.size 0 ⟨rn,rs,rt,ro,lt,lg,lb⟩ p):=hZ (by rw[<-hw1];exact⟨by simp,by simp,by simp,by simp,by simp,by simp,by simp,by simp,by simp⟩);have HL:Hid (w.heap.size<w1.heap.size):=hZ (by rw[<-hw1];simp);have HR:=hZ (HR.o.below hB0);have HSL:=hZ (Nat.lt_of_lt_of_le hbs hB0.size);have HS:Hid (w1.cell? ⟨bs,0,none⟩=some (.func (.func 90) #[] #[.pointer (some ⟨bc,0,none⟩)])):=hZ ((hB0.cell (p:=⟨bs,0,none⟩) hbs).trans hs);have HC:Hid (w1.cell? ⟨bc,0,none⟩=some (.slice ai n ci)):=hZ ((hB0.cell (p:=⟨bc,0,none⟩) hbc).trans hcb);have HCL:=hZ (Nat.lt_of_lt_of_le hbc hB0.size);clear hB0 hs hcb hr hg hbs hbc;have z0:=HX.o.c0;have z1:=HX.o.c1;have z2:=HX.o.c2;have z3:=HX.o.c3;have z4:=HX.o.c4;have z5:=HX.o.c5;have z6:=HX.o.c6;have z7:=HX.o.c7;have z8:=HX.o.c8;have zs:=HS.o;have zb:=HSL.o
 go_enter Tryz.func92,Tryz.ntmps92
 go_wp2_with fail
 clear hw1;refine(qEC _ lt n 2 bc ai ci w1 HR.o.take HG.o.take (by omega) HC.o HCL.o (by omega)).mono ?_;rintro e w2 ⟨rfl,hB⟩;have HB:=hZ (HB.o.trans (hB.mono HB.o.size));have HX:=hZ (HX.o.below hB HL.o);have HS:=hZ ((hB.cell (p:=⟨bs,0,none⟩) HSL.o).trans HS.o);have HR:=hZ (HR.o.below hB);have HL:=hZ (Nat.lt_of_lt_of_le HL.o hB.size);have HSL:=hZ (Nat.lt_of_lt_of_le HSL.o hB.size);have HC:=hZ ((hB.cell (p:=⟨bc,0,none⟩) HCL.o).trans HC.o);have HCL:=hZ (Nat.lt_of_lt_of_le HCL.o hB.size);clear hB z0 z1 z2 z3 z4 z5 z6 z7 z8 zs zb;have z0:=HX.o.c0;have z1:=HX.o.c1;have z2:=HX.o.c2;have z3:=HX.o.c3;have z4:=HX.o.c4;have z5:=HX.o.c5;have z6:=HX.o.c6;have z7:=HX.o.c7;have z8:=HX.o.c8;have zs:=HS.o;have zb:=HSL.o
 go_wp2_with fail
 refine(qEC _ lg n 2 bc ai ci w2 HR.o.give HG.o.give (by omega) HC.o HCL.o (by omega)).mono ?_;rintro e w3 ⟨rfl,hB⟩;have HB:=hZ (HB.o.trans (hB.mono HB.o.size));have HX:=hZ (HX.o.below hB HL.o);have HS:=hZ ((hB.cell (p:=⟨bs,0,none⟩) HSL.o).trans HS.o);have HR:=hZ (HR.o.below hB);have HL:=hZ (Nat.lt_of_lt_of_le HL.o hB.size);have HSL:=hZ (Nat.lt_of_lt_of_le HSL.o hB.size);have HC:=hZ ((hB.cell (p:=⟨bc,0,none⟩) HCL.o).trans HC.o);have HCL:=hZ (Nat.lt_of_lt_of_le HCL.o hB.size);clear hB z0 z1 z2 z3 z4 z5 z6 z7 z8 zs zb;have z0:=HX.o.c0;have z1:=HX.o.c1;have z2:=HX.o.c2;have z3:=HX.o.c3;have z4:=HX.o.c4;have z5:=HX.o.c5;have z6:=HX.o.c6;have z7:=HX.o.c7;have z8:=HX.o.c8;have zs:=HS.o;have zb:=HSL.o
 go_wp2_with fail
 refine(qEC _ lb n 2 bc ai ci w3 HR.o.back HG.o.back (by omega) HC.o HCL.o (by omega)).mono ?_;rintro e w4 ⟨rfl,hB⟩;have HB:=hZ (HB.o.trans (hB.mono HB.o.size));have HX:=hZ (HX.o.below hB HL.o);have HS:=hZ ((hB.cell (p:=⟨bs,0,none⟩) HSL.o).trans HS.o);have HR:=hZ (HR.o.below hB);have HL:=hZ (Nat.lt_of_lt_of_le HL.o hB.size);have HSL:=hZ (Nat.lt_of_lt_of_le HSL.o hB.size);have HC:=hZ ((hB.cell (p:=⟨bc,0,none⟩) HCL.o).trans HC.o);have HCL:=hZ (Nat.lt_of_lt_of_le HCL.o hB.size);clear hB z0 z1 z2 z3 z4 z5 z6 z7 z8 zs zb;have z0:=HX.o.c0;have z1:=HX.o.c1;have z2:=HX.o.c2;have z3:=HX.o.c3;have z4:=HX.o.c4;have z5:=HX.o.c5;have z6:=HX.o.c6;have z7:=HX.o.c7;have z8:=HX.o.c8;have zs:=HS.o;have zb:=HSL.o
 go_wp2_with fail
 refine(qGC ⟨rn,rs,rt,ro,lt,lg,lb⟩ p n w4 HR.o HG.o).mono ?_;rintro e w5 ⟨rfl,hB⟩;have HB:=hZ (HB.o.trans (hB.mono HB.o.size));have HX:=hZ (HX.o.below hB HL.o);have HS:=hZ ((hB.cell (p:=⟨bs,0,none⟩) HSL.o).trans HS.o);have HR:=hZ (HR.o.below hB);have HL:=hZ (Nat.lt_of_lt_of_le HL.o hB.size);have HSL:=hZ (Nat.lt_of_lt_of_le HSL.o hB.size);clear hB z0 z1 z2 z3 z4 z5 z6 z7 z8 zs zb;have z0:=HX.o.c0;have z1:=HX.o.c1;have z2:=HX.o.c2;have z3:=HX.o.c3;have z4:=HX.o.c4;have z5:=HX.o.c5;have z6:=HX.o.c6;have z7:=HX.o.c7;have z8:=HX.o.c8;have zs:=HS.o;have zb:=HSL.o
 go_wp2_with fail
 refine(qI3 _ _ lt lb n w5 HR.o.take HR.o.back HG.o.take HG.o.back (by omega) (qMh HG.o)).mono ?_;rintro e w6 ⟨rfl,hB⟩;have HB:=hZ (HB.o.trans (hB.mono HB.o.size));have HX:=hZ (HX.o.below hB HL.o);have HS:=hZ ((hB.cell (p:=⟨bs,0,none⟩) HSL.o).trans HS.o);have HR:=hZ (HR.o.below hB);have HL:=hZ (Nat.lt_of_lt_of_le HL.o hB.size);have HSL:=hZ (Nat.lt_of_lt_of_le HSL.o hB.size);clear hB z0 z1 z2 z3 z4 z5 z6 z7 z8 zs zb;have z0:=HX.o.c0;have z1:=HX.o.c1;have z2:=HX.o.c2;have z3:=HX.o.c3;have z4:=HX.o.c4;have z5:=HX.o.c5;have z6:=HX.o.c6;have z7:=HX.o.c7;have z8:=HX.o.c8;have zs:=HS.o;have zb:=HSL.o
 go_wp2_with fail
 go_ret;exact⟨rfl,HB.o⟩
theorem qQv(r:Rul)(p:Pl)(n bs:Nat)(w:World)(hr:qFf w r p)(hg:qD2 n r)(hbs:bs<w.heap.size)(hs:w.cell? ⟨bs,0,none⟩=some (.func (.func 99) #[] #[])):
 Calls Tryz.prog 103 #[qGu r p,.pointer (some ⟨bs,0,none⟩)] w fun e w'=>e=.returned (.bool true)/\Below w.heap.size w w':=by
 have HG:=hZ hg;have HR:=hZ hr;obtain⟨rn,rs,rt,ro,lt,lg,lb⟩:=r;unfold qGu;simp only[];obtain⟨w1,hw1⟩:=eX (w.alloc (.cells #[.string ⟨rn.toArray⟩,.bool rs,.int .i64 0,.int .i64 rt,.int .i64 1,.int .i64 ro,.slice p.at_ lt.length p.ct,.slice p.ag lg.length p.cg,.slice p.ab lb.length p.cb] 54));have hB0:Below w.heap.size w w1:=by rw[<-hw1];exact aR
 have HB:=hZ hB0;have HX:Hid (qDF w1 w.heap.size 0 ⟨rn,rs,rt,ro,lt,lg,lb⟩ p):=hZ (by rw[<-hw1];exact⟨by simp,by simp,by simp,by simp,by simp,by simp,by simp,by simp,by simp⟩);have HL:Hid (w.heap.size<w1.heap.size):=hZ (by rw[<-hw1];simp);have HR:=hZ (HR.o.below hB0);have HSL:=hZ (Nat.lt_of_lt_of_le hbs hB0.size);have HS:Hid (w1.cell? ⟨bs,0,none⟩=some (.func (.func 99) #[] #[])):=hZ ((hB0.cell (p:=⟨bs,0,none⟩) hbs).trans hs);clear hB0 hs hr hg hbs;have z0:=HX.o.c0;have z1:=HX.o.c1;have z2:=HX.o.c2;have z3:=HX.o.c3;have z4:=HX.o.c4;have z5:=HX.o.c5;have z6:=HX.o.c6;have z7:=HX.o.c7;have z8:=HX.o.c8;have zs:=HS.o;have zb:=HSL.o
 go_enter Tryz.func103,Tryz.ntmps103
 go_wp2_with fail
 clear hw1;refine(qDR _ lt n 2 w1 HR.o.take HG.o.take (by omega)).mono ?_;rintro e w2 ⟨rfl,hB⟩;have HB:=hZ (HB.o.trans (hB.mono HB.o.size));have HX:=hZ (HX.o.below hB HL.o);have HS:=hZ ((hB.cell (p:=⟨bs,0,none⟩) HSL.o).trans HS.o);have HR:=hZ (HR.o.below hB);have HL:=hZ (Nat.lt_of_lt_of_le HL.o hB.size);have HSL:=hZ (Nat.lt_of_lt_of_le HSL.o hB.size);clear hB z0 z1 z2 z3 z4 z5 z6 z7 z8 zs zb;have z0:=HX.o.c0;have z1:=HX.o.c1;have z2:=HX.o.c2;have z3:=HX.o.c3;have z4:=HX.o.c4;have z5:=HX.o.c5;have z6:=HX.o.c6;have z7:=HX.o.c7;have z8:=HX.o.c8;have zs:=HS.o;have zb:=HSL.o
 go_wp2_with fail
 refine(qDR _ lg n 2 w2 HR.o.give HG.o.give (by omega)).mono ?_;rintro e w3 ⟨rfl,hB⟩;have HB:=hZ (HB.o.trans (hB.mono HB.o.size));have HX:=hZ (HX.o.below hB HL.o);have HS:=hZ ((hB.cell (p:=⟨bs,0,none⟩) HSL.o).trans HS.o);have HR:=hZ (HR.o.below hB);have HL:=hZ (Nat.lt_of_lt_of_le HL.o hB.size);have HSL:=hZ (Nat.lt_of_lt_of_le HSL.o hB.size);clear hB z0 z1 z2 z3 z4 z5 z6 z7 z8 zs zb;have z0:=HX.o.c0;have z1:=HX.o.c1;have z2:=HX.o.c2;have z3:=HX.o.c3;have z4:=HX.o.c4;have z5:=HX.o.c5;have z6:=HX.o.c6;have z7:=HX.o.c7;have z8:=HX.o.c8;have zs:=HS.o;have zb:=HSL.o
 go_wp2_with fail
 refine(qDR _ lb n 2 w3 HR.o.back HG.o.back (by omega)).mono ?_;rintro e w4 ⟨rfl,hB⟩;have HB:=hZ (HB.o.trans (hB.mono HB.o.size));have HX:=hZ (HX.o.below hB HL.o);have HS:=hZ ((hB.cell (p:=⟨bs,0,none⟩) HSL.o).trans HS.o);have HR:=hZ (HR.o.below hB);have HL:=hZ (Nat.lt_of_lt_of_le HL.o hB.size);have HSL:=hZ (Nat.lt_of_lt_of_le HSL.o hB.size);clear hB z0 z1 z2 z3 z4 z5 z6 z7 z8 zs zb;have z0:=HX.o.c0;have z1:=HX.o.c1;have z2:=HX.o.c2;have z3:=HX.o.c3;have z4:=HX.o.c4;have z5:=HX.o.c5;have z6:=HX.o.c6;have z7:=HX.o.c7;have z8:=HX.o.c8;have zs:=HS.o;have zb:=HSL.o
 go_wp2_with fail
 refine(qFI ⟨rn,rs,rt,ro,lt,lg,lb⟩ p n w4 HR.o HG.o).mono ?_;rintro e w5 ⟨rfl,hB⟩;have HB:=hZ (HB.o.trans (hB.mono HB.o.size));have HX:=hZ (HX.o.below hB HL.o);have HS:=hZ ((hB.cell (p:=⟨bs,0,none⟩) HSL.o).trans HS.o);have HR:=hZ (HR.o.below hB);have HL:=hZ (Nat.lt_of_lt_of_le HL.o hB.size);have HSL:=hZ (Nat.lt_of_lt_of_le HSL.o hB.size);clear hB z0 z1 z2 z3 z4 z5 z6 z7 z8 zs zb;have z0:=HX.o.c0;have z1:=HX.o.c1;have z2:=HX.o.c2;have z3:=HX.o.c3;have z4:=HX.o.c4;have z5:=HX.o.c5;have z6:=HX.o.c6;have z7:=HX.o.c7;have z8:=HX.o.c8;have zs:=HS.o;have zb:=HSL.o
 go_wp2_with fail
 go_ret;exact⟨rfl,HB.o⟩
theorem qGy(vi vr:Value)(c:Cat)(w:World)(hc:qAS w vi vr c)(hg:qHf c):Calls Tryz.prog 42 #[qBo vi vr] w fun e w'=>e=.returned (.bool true)/\Below w.heap.size w w':=by
 have HI:=hZ hc.items;have HR:=hZ hc.rules;obtain⟨ai,ci,rfl,hi1,hi2⟩:=hc.items.form;obtain⟨ar,cr,rfl,hr1,hr2⟩:=hc.rules.form;have hli:=hg.items;have hlr:=hg.rules;have HG:=hZ hg;clear hc hg;unfold qBo;obtain⟨w1,hw1⟩:=eX ((w.alloc (.cells #[.slice ai c.items.length ci,.slice ar c.rules.length cr,.slice none 0 0,.slice none 0 0] 28)).alloc (.cells #[.func (.func 90) #[] #[.pointer (some ⟨w.heap.size,0,none⟩)]] 135));have HB:Hid (Below w.heap.size w w1):=hZ (by rw[<-hw1];exact aR.alloc (by simp) _);have HX:Hid (qBw w1 w.heap.size (.slice ai c.items.length ci) (.slice ar c.rules.length cr)):=hZ (by rw[<-hw1];exact(qBw.new _ _ _).below aR);have HS:Hid (w1.cell? ⟨w.heap.size+1,0,none⟩=some (.func (.func 90) #[] #[.pointer (some ⟨w.heap.size,0,none⟩)])):=hZ (by rw[<-hw1];simp);have HSL:Hid (w.heap.size+1<w1.heap.size):=hZ (by rw[<-hw1];simp);have m0:=HX.o.c0;have m1:=HX.o.c1;have m2:=HX.o.c2;have m3:=HX.o.c3
 go_enter Tryz.func42,Tryz.ntmps42
 go_wp2_with fail
 clear hw1;refine(qEO _ c.items 91 #[] w1 (HI.o.below HB.o) (by omega) (fun _ _=>by simp[go_sem]) (fun j hj w' hb=>by simpa using qGI c.items[j] w')).mono ?_;rintro e w2 ⟨rfl,hB⟩;have HB:=hZ (HB.o.trans (hB.mono HB.o.size));have HX:=hZ (HX.o.below hB);have HS:=hZ ((hB.cell (p:=⟨w.heap.size+1,0,none⟩) HSL.o).trans HS.o);have HSL:=hZ (Nat.lt_of_lt_of_le HSL.o hB.size);clear hB m0 m1 m2 m3;have m0:=HX.o.c0;have m1:=HX.o.c1;have m2:=HX.o.c2;have m3:=HX.o.c3
 go_wp2_with fail
 refine(qDB _ c.rules 92 #[.pointer (some ⟨w.heap.size+1,0,none⟩)] w2 (HR.o.below HB.o) (by omega) (fun _ _=>by simp[go_sem]) (fun j hj p w' hb hr=>by simpa using qPT c.rules[j] p c.items.length (w.heap.size+1) w.heap.size ai ci w' hr (HG.o.each _ (List.getElem_mem hj)) hli (Nat.lt_of_lt_of_le HSL.o hb.size) (Nat.lt_of_lt_of_le HX.o.lt hb.size) ((hb.cell (p:=⟨w.heap.size+1,0,none⟩) HSL.o).trans HS.o) ((hb.cell (p:=⟨w.heap.size,0,none⟩) HX.o.lt).trans HX.o.c0))).mono ?_;rintro e w3 ⟨rfl,hB⟩;have HB:=hZ (HB.o.trans (hB.mono HB.o.size));have HX:=hZ (HX.o.below hB);have HS:=hZ ((hB.cell (p:=⟨w.heap.size+1,0,none⟩) HSL.o).trans HS.o);have HSL:=hZ (Nat.lt_of_lt_of_le HSL.o hB.size);clear hB m0 m1 m2 m3;have m0:=HX.o.c0;have m1:=HX.o.c1;have m2:=HX.o.c2;have m3:=HX.o.c3
 go_wp2_with fail
 refine(qCQ _ _).mono ?_;rintro e w' ⟨rfl,rfl⟩
 go_wp2_with fail
 refine(qEl _ _).mono ?_;rintro e w' ⟨rfl,rfl⟩
 go_wp2_with fail
 go_ret;exact⟨rfl,HB.o⟩
theorem qJY(vi vr:Value)(c:Cat)(w:World)(hc:qAS w vi vr c)(hg:qHf c):Calls Tryz.prog 43 #[qBo vi vr] w fun e w'=>e=.returned (.bool true)/\Below w.heap.size w w':=by
 have HI:=hZ hc.items;have HR:=hZ hc.rules;obtain⟨ai,ci,rfl,hi1,hi2⟩:=hc.items.form;obtain⟨ar,cr,rfl,hr1,hr2⟩:=hc.rules.form;have hli:=hg.items;have hlr:=hg.rules;have HG:=hZ hg;clear hc hg;unfold qBo;obtain⟨w1,hw1⟩:=eX ((w.alloc (.cells #[.slice ai c.items.length ci,.slice ar c.rules.length cr,.slice none 0 0,.slice none 0 0] 28)).alloc (.cells #[.func (.func 99) #[] #[]] 135));have HB:Hid (Below w.heap.size w w1):=hZ (by rw[<-hw1];exact aR.alloc (by simp) _);have HX:Hid (qBw w1 w.heap.size (.slice ai c.items.length ci) (.slice ar c.rules.length cr)):=hZ (by rw[<-hw1];exact(qBw.new _ _ _).below aR);have HS:Hid (w1.cell? ⟨w.heap.size+1,0,none⟩=some (.func (.func 99) #[] #[])):=hZ (by rw[<-hw1];simp);have HSL:Hid (w.heap.size+1<w1.heap.size):=hZ (by rw[<-hw1];simp);have m0:=HX.o.c0;have m1:=HX.o.c1;have m2:=HX.o.c2;have m3:=HX.o.c3
 go_enter Tryz.func43,Tryz.ntmps43
 go_wp2_with fail
 clear hw1;refine(qEO _ c.items 102 #[] w1 (HI.o.below HB.o) (by omega) (fun _ _=>by simp[go_sem]) (fun j hj w' hb=>by simpa using qF1 c.items[j] w')).mono ?_;rintro e w2 ⟨rfl,hB⟩;have HB:=hZ (HB.o.trans (hB.mono HB.o.size));have HX:=hZ (HX.o.below hB);have HS:=hZ ((hB.cell (p:=⟨w.heap.size+1,0,none⟩) HSL.o).trans HS.o);have HSL:=hZ (Nat.lt_of_lt_of_le HSL.o hB.size);clear hB m0 m1 m2 m3;have m0:=HX.o.c0;have m1:=HX.o.c1;have m2:=HX.o.c2;have m3:=HX.o.c3
 go_wp2_with fail
 refine(qDB _ c.rules 103 #[.pointer (some ⟨w.heap.size+1,0,none⟩)] w2 (HR.o.below HB.o) (by omega) (fun _ _=>by simp[go_sem]) (fun j hj p w' hb hr=>by simpa using qQv c.rules[j] p c.items.length (w.heap.size+1) w' hr (HG.o.each _ (List.getElem_mem hj)) (Nat.lt_of_lt_of_le HSL.o hb.size) ((hb.cell (p:=⟨w.heap.size+1,0,none⟩) HSL.o).trans HS.o))).mono ?_;rintro e w3 ⟨rfl,hB⟩;have HB:=hZ (HB.o.trans (hB.mono HB.o.size));have HX:=hZ (HX.o.below hB);have HS:=hZ ((hB.cell (p:=⟨w.heap.size+1,0,none⟩) HSL.o).trans HS.o);have HSL:=hZ (Nat.lt_of_lt_of_le HSL.o hB.size);clear hB m0 m1 m2 m3;have m0:=HX.o.c0;have m1:=HX.o.c1;have m2:=HX.o.c2;have m3:=HX.o.c3
 go_wp2_with fail
 refine(qCQ _ _).mono ?_;rintro e w' ⟨rfl,rfl⟩
 go_wp2_with fail
 refine(qEl _ _).mono ?_;rintro e w' ⟨rfl,rfl⟩
 go_wp2_with fail
 go_ret;exact⟨rfl,HB.o⟩
theorem qDl(vi vr:Value)(c:Cat)(w:World)(hc:qAS w vi vr c)(hg:qHf c)(hn:qJn c)(h1:c.items.Nodup)(h2:(c.rules.map (fun x=>x.name)).Nodup)(hK:qAZ w):Calls Tryz.prog 13 #[qBo vi vr] w fun e w'=>e=.returned (.int .i64 0)/\Below w.heap.size w w':=by
 have H1:=hZ h1;have H2:=hZ h2;clear h1 h2;obtain⟨ai,ci,rfl,hi1,hi2⟩:=hc.items.form;obtain⟨ar,cr,rfl,hr1,hr2⟩:=hc.rules.form;obtain⟨w1,hw1⟩:=eX (w.alloc (.cells #[.slice ai c.items.length ci,.slice ar c.rules.length cr,.slice none 0 0,.slice none 0 0] 28));have HB:Hid (Below w.heap.size w w1):=hZ (by rw[<-hw1];exact aR);have HX:Hid (qBw w1 w.heap.size (.slice ai c.items.length ci) (.slice ar c.rules.length cr)):=hZ (by rw[<-hw1];exact qBw.new _ _ _);have HC:=hZ (hc.below HB.o);have m0:=HX.o.c0;have m1:=HX.o.c1;have m2:=HX.o.c2;have m3:=HX.o.c3;have HG:=hZ hg;have HN:=hZ hn;have HK:=hZ (hK.keep HB.o);clear hc hg hn hK;unfold qBo
 go_enter Tryz.func13,Tryz.ntmps13
 go_wp2_with fail
 clear hw1;refine(qGQ _ _ c w1 HC.o HG.o).mono ?_;rintro e w2 ⟨rfl,hB⟩;have HK:=hZ (HK.o.keep hB);have HB:=hZ (HB.o.trans (hB.mono HB.o.size));have HX:=hZ (HX.o.below hB);have HC:=hZ (HC.o.below hB);clear hB m0 m1 m2 m3;have m0:=HX.o.c0;have m1:=HX.o.c1;have m2:=HX.o.c2;have m3:=HX.o.c3
 go_wp2_with fail
 refine(qE4 _ _ c w2 HC.o HG.o HN.o HK.o).mono ?_;rintro e w3 ⟨rfl,hB⟩;have HB:=hZ (HB.o.trans (hB.mono HB.o.size));have HX:=hZ (HX.o.below hB);have HC:=hZ (HC.o.below hB);clear hB m0 m1 m2 m3;have m0:=HX.o.c0;have m1:=HX.o.c1;have m2:=HX.o.c2;have m3:=HX.o.c3
 go_wp2_with fail
 refine(qFS _ _ c w3 HC.o HG.o HN.o H1.o H2.o).mono ?_;rintro e w4 ⟨rfl,hB⟩;have HB:=hZ (HB.o.trans (hB.mono HB.o.size));have HX:=hZ (HX.o.below hB);have HC:=hZ (HC.o.below hB);clear hB m0 m1 m2 m3;have m0:=HX.o.c0;have m1:=HX.o.c1;have m2:=HX.o.c2;have m3:=HX.o.c3
 go_wp2_with fail
 refine(qGy _ _ c w4 HC.o HG.o).mono ?_;rintro e w5 ⟨rfl,hB⟩;have HB:=hZ (HB.o.trans (hB.mono HB.o.size));have HX:=hZ (HX.o.below hB);have HC:=hZ (HC.o.below hB);clear hB m0 m1 m2 m3;have m0:=HX.o.c0;have m1:=HX.o.c1;have m2:=HX.o.c2;have m3:=HX.o.c3
 go_wp2_with fail
 refine(qJY _ _ c w5 HC.o HG.o).mono ?_;rintro e w6 ⟨rfl,hB⟩;have HB:=hZ (HB.o.trans (hB.mono HB.o.size));have HX:=hZ (HX.o.below hB);have HC:=hZ (HC.o.below hB);clear hB m0 m1 m2 m3;have m0:=HX.o.c0;have m1:=HX.o.c1;have m2:=HX.o.c2;have m3:=HX.o.c3
 go_wp2_with fail
 go_ret;exact⟨rfl,HB.o⟩
theorem qIb(vi vr:Value)(c:Cat)(w:World)(hc:qAS w vi vr c)(hg:qHf c)(hn:qJn c)(h1:¬c.items.Nodup)(hK:qAZ w):Calls Tryz.prog 13 #[qBo vi vr] w fun e w'=>e=.returned (.int .i64 8)/\Below w.heap.size w w':=by
 have H1:=hZ h1;clear h1;obtain⟨ai,ci,rfl,hi1,hi2⟩:=hc.items.form;obtain⟨ar,cr,rfl,hr1,hr2⟩:=hc.rules.form;obtain⟨w1,hw1⟩:=eX (w.alloc (.cells #[.slice ai c.items.length ci,.slice ar c.rules.length cr,.slice none 0 0,.slice none 0 0] 28));have HB:Hid (Below w.heap.size w w1):=hZ (by rw[<-hw1];exact aR);have HX:Hid (qBw w1 w.heap.size (.slice ai c.items.length ci) (.slice ar c.rules.length cr)):=hZ (by rw[<-hw1];exact qBw.new _ _ _);have HC:=hZ (hc.below HB.o);have m0:=HX.o.c0;have m1:=HX.o.c1;have m2:=HX.o.c2;have m3:=HX.o.c3;have HG:=hZ hg;have HN:=hZ hn;have HK:=hZ (hK.keep HB.o);clear hc hg hn hK;unfold qBo
 go_enter Tryz.func13,Tryz.ntmps13
 go_wp2_with fail
 clear hw1;refine(qGQ _ _ c w1 HC.o HG.o).mono ?_;rintro e w2 ⟨rfl,hB⟩;have HK:=hZ (HK.o.keep hB);have HB:=hZ (HB.o.trans (hB.mono HB.o.size));have HX:=hZ (HX.o.below hB);have HC:=hZ (HC.o.below hB);clear hB m0 m1 m2 m3;have m0:=HX.o.c0;have m1:=HX.o.c1;have m2:=HX.o.c2;have m3:=HX.o.c3
 go_wp2_with fail
 refine(qE4 _ _ c w2 HC.o HG.o HN.o HK.o).mono ?_;rintro e w3 ⟨rfl,hB⟩;have HB:=hZ (HB.o.trans (hB.mono HB.o.size));have HX:=hZ (HX.o.below hB);have HC:=hZ (HC.o.below hB);clear hB m0 m1 m2 m3;have m0:=HX.o.c0;have m1:=HX.o.c1;have m2:=HX.o.c2;have m3:=HX.o.c3
 go_wp2_with fail
 refine(qGF _ _ c w3 HC.o HG.o HN.o H1.o).mono ?_;rintro e w4 ⟨rfl,hB⟩;have HB:=hZ (HB.o.trans (hB.mono HB.o.size));have HX:=hZ (HX.o.below hB);have HC:=hZ (HC.o.below hB);clear hB m0 m1 m2 m3;have m0:=HX.o.c0;have m1:=HX.o.c1;have m2:=HX.o.c2;have m3:=HX.o.c3
 go_wp2_with fail
 go_ret;exact⟨rfl,HB.o⟩
def qBa(n:Nat)(f:Nat->Int):List Value:=(List.range n).map (fun i=>zv (f i))
theorem qB2(n:Nat)(f:Nat->Int):(qBa n f).length=n:=by simp[qBa]
theorem qBC(n:Nat)(f:Nat->Int)(j:Nat)(h:j<n):(qBa n f)[j]? =some (.int .i64 (f j)):=by simp[qBa,h,zv]
theorem qB1(n:Nat)(f:Nat->Int)(j:Nat)(x:Int):(qBa n f).set j (.int .i64 x)=qBa n (fun i=>if i=j then x else f i):=by
 apply List.ext_getElem?;intro i;rw[List.getElem?_set];by_cases h:j=i
 ·subst h
  by_cases hl:j<n
  ·simp[qBa,hl,zv]
  ·simp[qBa,hl]
 ·rw[if_neg h]
  by_cases hl:i<n
  ·simp[qBa,hl,zv,Ne.symm h]
  ·simp[qBa,hl]
theorem qCD(n:Nat)(f g:Nat->Int)(h:∀i,i<n->f i=g i):qBa n f=qBa n g:=by
 unfold qBa;apply List.map_congr_left;intro i hi;rw[h i (List.mem_range.1 hi)]
theorem qAS.of_below{w w':World}{vi vr:Value}{c:Cat}(h:qAS w vi vr c)(hb:Below w.heap.size w w'):qAS w' vi vr c:=h.below hb
theorem qFA(l:List Amt)(k:Nat)(hk:k<l.length)(f:Nat->Int):(fun i=>if i=l[k].item then (f l[k].item-(ofI (l.take k) l[k].item:Nat))-(l[k].n:Int)else f i-(ofI (l.take k) i:Nat))=(fun i=>f i-((ofI (l.take (k+1)) i:Nat):Int)):=by
 funext i
 rw[qFn l k hk];by_cases h:i=l[k].item
 ·rw[if_pos h,h,if_pos rfl];omega
 ·rw[if_neg h,if_neg (Ne.symm h)];omega
theorem qF4(l:List Amt)(k:Nat)(hk:k<l.length)(f:Nat->Int):(fun i=>if i=l[k].item then (f l[k].item+(ofI (l.take k) l[k].item:Nat))+(l[k].n:Int)else f i+(ofI (l.take k) i:Nat))=(fun i=>f i+((ofI (l.take (k+1)) i:Nat):Int)):=by
 funext i
 rw[qFn l k hk];by_cases h:i=l[k].item
 ·rw[if_pos h,h,if_pos rfl];omega
 ·rw[if_neg h,if_neg (Ne.symm h)];omega
theorem qAc.alloc{S:Nat->Prop}{w w':World}(h:qAc S w w')(o:Obj):qAc S w (w'.alloc o):=
 ⟨h.os,h.tape,h.output,Nat.le_trans h.size (by simp),fun k hk hn=>(Below.heap_alloc w' o k (Nat.lt_of_lt_of_le hk h.size)).trans (h.block k hk hn)⟩
theorem qON(n:Nat):madeCells (Value.int .i64 0).cells (n*1)=(qBa n (fun _=>0)).toArray:=by
 apply Array.toList_inj.1;simp[madeCells,Value.cells,qBa,zv,Nat.mod_one,List.map_const']
theorem qMF(n:Nat)(hn:n<=1000000)(w:World):
 (Instr.makeSlice 22 (.int .i64 (n:Int)) (.int .i64 (n:Int))).run Tryz.prog w=.ok (.slice (some ⟨w.heap.size,0,none⟩) n n) (w.alloc (.cells (qBa n (fun _=>0)).toArray 3)):=by
 obtain⟨ht,i,z,hi,hz,hsize,hbyt,hzs,hk⟩:=qEP;have hz':z=.int .i64 0:=by
  obtain⟨i',hi',hz0,hz1,hz2⟩:=info_parts (show(Tryz.prog.info? 3).map (fun i=>(i.zero,i.size,i.bytes))=some (some (.int .i64 0),1,8) by kernel_rfl);have:=Option.some.inj (hi.symm.trans hi');subst this;exact Option.some.inj (hz.symm.trans hz0)
 subst hz';have hb:(i.bytes:Int)*(n:Int)<=281474976710656:=by rw[hbyt];omega
 have hr:=run_make (P:=Tryz.prog) w 22 3 i _ ht hi hz .i64 .i64 n n (by omega) (by omega) hb (by omega);simp only[Int.toNat_natCast,hsize]at hr;rw[qON]at hr;exact hr
structure qL8(c:Cat):Prop where
 good:qHf c
 named:qJn c
 ni:c.items.Nodup
 nr:(c.rules.map (fun x=>x.name)).Nodup
theorem qQ2(n:Nat)(f:Nat->Int):qBa n f=((List.range n).map f).map zv:=by simp[qBa]
theorem qF3{w:World}{g n:Nat}{t:TypeId}{f:Nat->Int}(h:qAf w g t (qBa n f))(hn:n<=1000000):qAg w (.slice (some ⟨g,0,none⟩) n n) ((List.range n).map f):=by
 rw[qQ2]at h;have:=qCg h (cap:=n) (by simp) (by omega);simpa using this
open Go
section
variable {P:Program}{md:Region.Mode}{ops:Array Oper}{Q:Exit->Act->World->Prop}{l n:Nat}
theorem qB7{f:FuncId}{args:Array Value}{w:World}{R:Ending->World->Prop}(h:Calls P f args w R):CallsIn (Fence.wide.inRound l) n P f args w R:=
 (callsIn_wide (n:=n)).2 h
theorem qMm{o:Oper}{a:Act}{K:Act->World->Prop}:∀r:Result Next,o.upon P a K Q r->o.uponIn (Fence.wide.inRound l) n P a K Q r:=by
 intro r h;unfold Oper.upon at h;unfold Oper.uponIn
 split at h
 ·exact h
 ·exact h
 ·exact h
 ·exact⟨(fun h=>by cases h),qB7 h⟩
 ·refine⟨fun h=>(by cases h),fun c cs _=> ?_⟩
  obtain⟨v,w',hr,hs⟩:=h c cs;exact⟨v,w',hr,stepsIn_wide.2 hs⟩
 ·exact h
 ·exact h.elim
def qFR(ops:Array Oper):Bool:=ops.all fun o=>match o.op with
 |.defer _=>false
 |_=>true
theorem qIA(h:qFR ops=true){i:Nat}{o:Oper}(ho:ops[i]? =some o):∀c,o.op≠ .defer c:=by
 intro c hc;unfold qFR at h;rw[Array.all_eq_true']at h;have:=h o (Array.mem_of_getElem? ho);rw[hc]at this;cases this
theorem qMg(hd:qFR ops=true)(hL:∀a w,¬Q .outgrown a w){i:Nat}{K:Act->World->Prop}{a:Act}{w:World}(h:wpOp P ops Q i K a w):wpOpIn (Fence.wide.inRound l) n P ops Q i K a w:=by
 unfold wpOp at h;unfold wpOpIn;cases ho:ops[i]? with
 |none=>rw[ho]at h;exact h
 |some o=>
  rw[ho]at h;simp only[]at h ⊢
  split
  ·next hw=>
   rw[if_pos hw]at h;refine⟨fun _ _=>trivial,?_⟩;rw[show(Fence.wide.inRound l).round=some l from rfl,Oper.semAt_some l _ o (qIA hd ho)];rcases h with h|⟨_,a',w',h⟩
   ·exact qMm _ h
   ·exact(hL a' w' h).elim
  ·next hw=>
   rw[if_neg hw]at h;exact⟨fun _ _=>trivial,h⟩
theorem qGP(hd:qFR ops=true)(hL:∀a w,¬Q .outgrown a w):∀(fuel:Nat) (listed:Array Bool) (a:Act) (w:World),wpAny P md ops Q fuel listed a w->wpAnyIn (Fence.wide.inRound l) n P md ops Q fuel listed a w
 |0,_,_,_,h=>h
 |fuel+1,_,_,_,h=>⟨h.1,fun i hi=>wpOpIn_mono (fun a' w' h'=>qGP hd hL fuel _ a' w' h') (qMg hd hL (h.2 i hi))⟩
theorem qLs{id:Nat}{a:Act}{w:World}(last:Nat)(S:World->Prop)(hm:P.follows .mixedOrders=true)(hd:qFR ops=true)(hL:∀a w,¬Q .outgrown a w)(hS:S w.drew)
 (h:S w.drew->qBl P .any ops Q S last ops.size (Array.replicate ops.size false) a w.drew):(Code.region id ops true).wpIn (Fence.wide.inRound l) n P Q a w:=
 wpIn_region_any hm (qGP hd hL _ _ _ _ (qEy _ _ _ _ (h hS)))
end
open Go.RowKit Go.Shelf
attribute [local go_sem] Oper.semAt_some
def qH3(n0:Nat)(W W':World):Prop:=W.heap.size<=W'.heap.size/\∀b,n0<=b->b<W.heap.size->W'.heap[b]? =W.heap[b]?
theorem One.up{n0:Nat}{W W':World}{b:Nat}{t:TypeId}{v:Value}(h:One W b t v)(hk:qH3 n0 W W')(hb:n0<=b):One W' b t v:=(hk.2 b hb h.lt).trans h
theorem qMu{P:Program}{W0 w:World}{ops:Array Oper}{o:Oper}{a:Act}{K:Act->World->Prop}{Q:Exit->Act->World->Prop}{E:Prop}{B k bytes:Nat}{t e:TypeId}(hE:qEv P t e k bytes)(hgd:o.guard=none)(s x:Operand)
 (ho:o.op=.call { callee:=.builtin .append,args:=#[s,x],argTypes:=#[t,t] })(cs:List Value)(g0:Nat)
 (v:Value)(n:Nat)(xs:List Value)(hs:a.eval s=v)(hx:a.eval x=.slice (some ⟨g0,0,none⟩) 1 1)(hg0:qAf w g0 e cs)(hcs:cs.length=k)(h1:∀u∈cs,u.oneCell'=true)
 (hown:w.ownsRow B e k v n xs)(hB:Below B W0 w)(hle:B<=w.heap.size)(hn:n<=1000000000)(hby:bytes<=1000)
 (h:∀g cap w',Hid (w'.ownsRow B e k (.slice (some ⟨g,0,none⟩) (n+1) cap) (n+1) (xs++cs))->Hid (Below B W0 w')->Hid (qAc (fun b=>v.ownBlock=some b) w w')->cap<=9223372036854775807->n+1<=cap->K (a.put o.dst (.slice (some ⟨g,0,none⟩) (n+1) cap)) w'):
 if Region.wanted o (yielded ops a.tmps)=true then Oper.wp P o a w K Q else E:=by
 obtain⟨ht,i,z,hi,hz,hsize,hbyt,hzs,hk⟩:=hE;have hcap:(n+1)*bytes<=140737488355328:=Nat.le_trans (Nat.mul_le_mul (show n+1<=1000000001 by omega) hby) (by decide);refine step_append_lies w hgd s x t ho B e i z k bytes ht hi hz hsize hbyt hzs hk v n xs hs hown ⟨g0,0,none⟩ 1 1 cs hx (by rw[Nat.one_mul];exact hcs) ?_ h1 (by omega) (by unfold maxLen;omega) hcap hle w.heap.size rfl ?_
 ·intro j u hu
  have hadd:(⟨g0,0,none⟩:Addr).add j=⟨g0,j,none⟩:=by unfold Addr.add;split<;>simp_all
  rw[hadd,hg0.cell];exact hu
 ·intro g cap w' ho' hg hat hlt
  have hO:=qBz hg;have hc2:cap<=9223372036854775807/\n+1<=cap:=by
   rcases ho'.2 with ⟨hv,_⟩|⟨_,_,_,hv,_,_,h4,h3,_⟩
   ·cases hv
   ·injection hv with _ _ e
    unfold maxLen at h3;omega
  exact h g cap w' (hZ ho') (hZ (hO.below hB hle (fun k e=>(hown.lt k e).1))) (hZ hO) hc2.1 hc2.2
open Go.RowKit Go.Shelf
theorem qI9{w:World}{g:Nat}{t:TypeId}{cs:List Value}(h:qAf w g t cs):qAf (w.setCells g 0 (List.replicate cs.length (.int .i64 0))) g t (qBa cs.length (fun _=>0)):=by
 have hlt:=h.lt;have key:∀(m o:Nat) (cs:List Value) (w:World),qAf w g t cs->o+m=cs.length->qAf (w.setCells g o (List.replicate m (.int .i64 0))) g t (cs.take o++List.replicate m (.int .i64 0)):=by
  intro m
  induction m with
  |zero=>intro o cs w h he;simpa[World.setCells,List.take_of_length_le (show cs.length<=o by omega)]using h
  |succ m ih=>
   intro o cs w h he;rw[List.replicate_succ,World.setCells];have h1:=ih (o+1) (cs.set o (.int .i64 0)) _ (h.set o _) (by rw[List.length_set];omega);have e:(cs.set o (.int .i64 0)).take (o+1)++List.replicate m (Value.int .i64 0)=cs.take o++(Value.int .i64 0::List.replicate m (Value.int .i64 0)):=by
    rw[List.take_succ_eq_append_getElem (by rw[List.length_set];omega),List.take_set_of_le (Nat.le_refl _)];simp
   rw[e]at h1;exact h1
 have:=key cs.length 0 cs w h (by omega);have e:qBa cs.length (fun _=>0)=List.replicate cs.length (.int .i64 0):=by simp[qBa,zv,List.map_const']
 rw[e];simpa using this
theorem qES(w:World)(g o:Nat):∀(vs:List Value) (o:Nat) (w:World),qAc (fun b=>b=g) w (w.setCells g o vs)
 |[],_,w=>qAc.refl _ _
 |v::r,o,w=>((qAc.refl (fun b=>b=g) w).set (p:=⟨g,o,none⟩) rfl v).trans (qES w g o r (o+1) _)
theorem qAo(W:World)(l:Nat)(o:Obj):qAc (fun b=>b=l) W (W.putObj l o):=
 ⟨rfl,rfl,rfl,by rw[World.putObj_size];exact Nat.le_refl _,fun k hk hn=>World.putObj_heap_other hn⟩
theorem qB6{S:Nat->Prop}{W W':World}{n0:Nat}(h:qAc S W W')(hS:∀b,n0<=b->¬S b):qH3 n0 W W':=⟨h.size,fun b hb hl=>h.block b hl (hS b hb)⟩
open Go.RowKit Go.Shelf
attribute [local go_sem] Oper.semAt_some
def qBE(lt lg:List Amt)(i:Nat):Int:=(ofI lg i:Nat)-(ofI lt i:Nat)
def qCM(r:Rul):List (List Amt):=if 1<r.of_ then [r.give,r.back]else [r.give]
def qEb(j:Nat)(r:Rul):List (Nat×(Nat->Int)):=if r.spawn then []else (qCM r).map (fun l=>(j,qBE r.take l))
def qC3:Nat->List Rul->List (Nat×(Nat->Int))
 |_,[]=>[]
 |j,r::rs=>qEb j r++qC3 (j+1) rs
def qC4(c:Cat):List (Nat×(Nat->Int)):=qC3 0 c.rules
theorem qMK(c:Cat)(j:Nat)(h:j<c.rules.length):qC3 j (c.rules.drop j)=qEb j c.rules[j]++qC3 (j+1) (c.rules.drop (j+1)):=by
 rw[List.drop_eq_getElem_cons h];rfl
theorem qHt:∀(rs:List Rul) (j:Nat) (x:Nat×(Nat->Int)),x∈qC3 j rs->∃r∈rs,∃l∈qCM r,x.2=qBE r.take l/\r.spawn=false/\∃h:x.1-j<rs.length,j<=x.1/\rs[x.1-j]=r
 |[],j,x,h=>by simp[qC3]at h
 |r::rs,j,x,h=>by
  simp only[qC3,List.mem_append]at h;rcases h with h|h
  ·unfold qEb at h
   split at h
   ·simp at h
   ·rename_i hs
    obtain⟨l,hl,rfl⟩:=List.mem_map.1 h;exact⟨r,by simp,l,hl,rfl,by simpa using hs,by simp,Nat.le_refl _,by simp⟩
  ·obtain⟨r',h1,l,h2,h3,h4,h5,h6,h7⟩:=qHt rs (j+1) x h
   refine⟨r',by simp[h1],l,h2,h3,h4,by simp;omega,by omega,?_⟩;have e:x.1-j=(x.1-(j+1))+1:=by omega
   simp only[e,List.getElem_cons_succ];exact h7
def qFg(S L:List (Nat×(Nat->Int)))(k:Nat):Prop:=k+L.length=S.length/\∀q (h:q<L.length),S[k+q]? =some L[q]
theorem qFg.all(S:List (Nat×(Nat->Int))):qFg S S 0:=⟨by simp,fun q h=>by rw[Nat.zero_add,List.getElem?_eq_getElem h]⟩
theorem qFg.skip{S A L:List (Nat×(Nat->Int))}{k:Nat}(h:qFg S (A++L) k):qFg S L (k+A.length):=by
 obtain⟨h1,h2⟩:=h;rw[List.length_append]at h1;refine⟨by omega,fun q hq=> ?_⟩;have:=h2 (A.length+q) (by rw[List.length_append];omega);rw[Nat.add_assoc,this,List.getElem_append_right (by omega)];simp
theorem qFg.at_{S A L:List (Nat×(Nat->Int))}{k:Nat}(h:qFg S (A++L) k)(q:Nat)(hq:q<A.length):S[k+q]? =some A[q]:=by
 have:=h.2 q (by rw[List.length_append];omega);rw[this,List.getElem_append_left hq]
def qBG(n0:Nat)(W W':World):Prop:=W.heap.size<=W'.heap.size/\∀b t cs,n0<=b->qAf W b t cs->(b=n0\/t≠3)->qAf W' b t cs
theorem qH3.keepsT{n0:Nat}{W W':World}(h:qH3 n0 W W'):qBG n0 W W':=⟨h.1,fun b _ _ hb hc _=>(h.2 b hb hc.lt).trans hc⟩
structure qR2(n0 l bc:Nat)(wc:World)(vi vr:Value)(c:Cat)(J:Nat->World->Prop)(Jx:World->Prop):Prop where
 hA:∀k W W',J k W->qAc (fun b=>b=n0) W W'->J k W'
 hC:qAS wc vi vr c
 hw:wc.heap.size<=n0
 hR:∀k W,J k W->n0<=W.heap.size/\qBw W bc vi vr/\Below wc.heap.size wc W
 hb:bc<n0/\l<n0
 hY:∀(k i:Nat) (f:Nat->Int) (W:World),(qC4 c)[k]? =some (i,f)->J k W->qAf W n0 3 (qBa c.items.length f)->YieldAt Fence.wide 29 Tryz.prog l #[.int .i64 (i:Int),.slice (some ⟨n0,0,none⟩) c.items.length c.items.length] W fun e W'=>
  ((e=.returned (.bool true)/\J (k+1) W')\/(e=.returned (.bool false)/\Jx W'))/\qBG n0 W W'
structure RSt(n0 n g bR:Nat)(os rc:List Value)(J:World->Prop)(f:Nat->Int)(W:World):Prop where
 j:J W
 f:qAf W n0 3 (qBa n f)
 o:qAf W g 52 os
 r:qAf W bR 54 rc
theorem RSt.only{n0 n g bR:Nat}{os rc:List Value}{J:World->Prop}{f f':Nat->Int}{W W':World}(h:RSt n0 n g bR os rc J f W)(hA:∀W W',J W->qAc (fun b=>b=n0) W W'->J W')(ho:qAc (fun b=>b=n0) W W')(hf:qAf W' n0 3 (qBa n f'))(hg:n0<g)(hr:n0<bR)(hs:n0<=W.heap.size):RSt n0 n g bR os rc J f' W':=
 ⟨hA W W' h.j ho,hf,h.o.only ho (by omega),h.r.only ho (by omega)⟩
theorem qQM:qEv Tryz.prog 144 52 1 24:=qEv.mk (z:=.slice none 0 0) Tryz.underlying144 (by kernel_rfl) rfl (by decide)
theorem qOB(r:Rul):1<=(qCM r).length/\(qCM r).length<=2:=by
 unfold qCM
 split<;>simp
theorem qKK{n M:Nat}{l:List Amt}(h:qAM n M 2 l)(i:Nat):ofI l i<=2*M:=qBS h i
theorem qMV(w:World)(e:TypeId)(v:Value):(w.alloc (.cells #[v] e)).ownsRow w.heap.size e 1 (.slice (some ⟨w.heap.size,0,none⟩) 1 1) 1 [v]:=
 ⟨by simp,.inr ⟨w.heap.size,1,#[v],rfl,Nat.le_refl _,heap_alloc_new w _,Nat.le_refl _,by unfold maxLen;omega,by simp,by simp⟩⟩
theorem qDb{l bc:Nat}{vi vr:Value}{c:Cat}{J:Nat->World->Prop}{Jx:World->Prop}(W0:World){wc:World}(E:qR2 W0.heap.size l bc wc vi vr c J Jx)(hg:qHf c)(hJ:J 0 W0):
 Calls Tryz.prog 109 #[.func (.yield l) #[] #[],.pointer (some ⟨bc,0,none⟩)] W0 fun e W'=>(∃v,e=.returned v)/\(J (qC4 c).length W'\/Jx W'):=by
 obtain⟨hz0,hx0,hc0⟩:=E.hR 0 W0 hJ;obtain⟨ai,ci,rfl,hi1,hi2⟩:=E.hC.items.form;obtain⟨ar,cr,rfl,hr1,hr2⟩:=E.hC.rules.form;obtain⟨n0,hn0⟩:=eX W0.heap.size;rw[hn0]at E;have HE:=hZ E;have HG:=hZ hg;have hbl:=E.hb;have hli:=hg.items;have hl1:=hg.some_;have hlr:=hg.rules;obtain⟨w1,hw1⟩:=eX (W0.alloc (.cells (qBa c.items.length (fun _=>0)).toArray 3));have hB1:Below n0 W0 w1:=by rw[<-hw1,<-hn0];exact aR
 have HF1:Hid (qAf w1 n0 3 (qBa c.items.length (fun _=>0))):=hZ (by rw[<-hw1,<-hn0];exact qAf.new _ _ _);have HJ1:=hZ (E.hA 0 W0 w1 hJ (qAc.of_below (hn0▸hB1)));have hx1:=(E.hR 0 w1 HJ1.o).2.1;have hmk:=qMF c.items.length (by omega) W0;rw[hw1]at hmk;have m0:=hx0.c0;have p1:=hx1.c1;clear hx0 hc0 hJ E hg hB1 hz0 hx1
 go_enter Tryz.func109,Tryz.ntmps109
 go_wp2_with fail
 clear hmk hw1 m0 p1 hn0
 go_loopw [20] (fun i wr=>∃(j kj:Nat),j<=c.rules.length/\i=.int .i64 j/\Hid (J kj wr)/\Hid (∃f,qAf wr n0 3 (qBa c.items.length f))/\Hid (qFg (qC4 c) (qC3 j (c.rules.drop j)) kj)) (fun i _=>c.rules.length-(intOf i).toNat)
 case atStart=>exact⟨0,0,by omega,rfl,HJ1,hZ ⟨_,HF1.o⟩,hZ (qFg.all _)⟩
 case round=>
  clear HJ1 HF1;obtain⟨j,kj,hj,rfl,HJ,HFk,HL⟩:=hrel;by_cases hlt:j<c.rules.length
  ·obtain⟨hsz,hbx,hcat⟩:=HE.o.hR kj wr HJ.o
   obtain⟨b2,cap2,p,hv2,hb2,hr,hcs0⟩:=qA1.at_ HE.o.hC.rules j hlt;injection hv2 with e1 e2 e3;subst e1;clear e2 e3;have HGR:=hZ (HG.o.each c.rules[j] (List.getElem_mem hlt));have HD:=hZ (qMK c j hlt);have HR:=hZ hr;have hcs:=hcs0.below hcat hb2;clear hcs0;obtain⟨c0,c1,c2,c3,c4,c5,c6,c7,c8⟩:=hcs;have i1:(0:Int)<=(j:Int):=by omega
   have i2:(j:Int)<(c.rules.length:Int):=by omega
   have hto:=HGR.o.of1;have hto2:=HGR.o.of2;clear hbx hcat hr;generalize c.rules[j]=r at *;obtain⟨rn,rs,rt,ro,lt,lg,lb⟩:=r;simp only[]at c0 c1 c2 c3 c4 c5 c6 c7 c8 hto hto2;obtain⟨wx,hwx⟩:=eX (wr.alloc (.cells #[.string ⟨rn.toArray⟩,.bool rs,.int .i64 0,.int .i64 (rt:Int),.int .i64 1,.int .i64 (ro:Int),.slice p.at_ lt.length p.ct,.slice p.ag lg.length p.cg,.slice p.ab lb.length p.cb] 54));have hBx:Below wr.heap.size wr wx:=by rw[<-hwx];exact aR
   have HRB:Hid (qAf wx wr.heap.size 54 [.string ⟨rn.toArray⟩,.bool rs,.int .i64 0,.int .i64 (rt:Int),.int .i64 1,.int .i64 (ro:Int),.slice p.at_ lt.length p.ct,.slice p.ag lg.length p.cg,.slice p.ab lb.length p.cb]):=hZ (by rw[<-hwx];exact qAf.new _ _ _);have HJx:=hZ (HE.o.hA kj wr wx HJ.o (qAc.of_below hBx));have HFx:Hid (∃f,qAf wx n0 3 (qBa c.items.length f)):=hZ (by
    obtain⟨f,hf⟩:=HFk.o;exact⟨f,hf.below hBx hf.lt⟩)
   have hlx:wr.heap.size<wx.heap.size:=HRB.o.lt;have d1:=HRB.o.cell 1;have d4:=HRB.o.cell 4;have d5:=HRB.o.cell 5;have d6:=HRB.o.cell 6;have d7:=HRB.o.cell 7;have d8:=HRB.o.cell 8;simp only[List.getElem?_cons_succ,List.getElem?_cons_zero]at d1 d4 d5 d6 d7 d8;have hn0r:n0<wr.heap.size:=by obtain⟨f,hf⟩:=HFk.o;exact hf.lt
   cases rs with
   |true=>
    have HL2:Hid (qFg (qC4 c) (qC3 (j+1) (c.rules.drop (j+1))) kj):=hZ (by have h9:=HL.o;rw[HD.o]at h9;exact h9);clear hBx HD HL
    go_wp2_with fail
    go_roundw
    case rel=>exact⟨j+1,kj,by omega,by go_num,HJx,HFx,HL2⟩
    case measure=>simp[intOf];omega
   |false=>
    by_cases hof:1<ro
    ·have q1:decide ((1:Int)<(ro:Int))=true:=decide_eq_true (by omega)
     have q2:decide (1<ro)=true:=decide_eq_true hof;have HO:Hid ((wx.alloc (.cells #[.slice p.ag lg.length p.cg] 52)).ownsRow wx.heap.size 52 1 (.slice (some ⟨wx.heap.size,0,none⟩) 1 1) 1 [.slice p.ag lg.length p.cg]):=hZ (qMV wx 52 (.slice p.ag lg.length p.cg));have HBA:Hid (Below wx.heap.size wx (wx.alloc (.cells #[.slice p.ag lg.length p.cg] 52))):=hZ aR
     go_wp2_with (at_builtin;refine qAn (W0:=wx) (B:=wx.heap.size) qQM rfl _ _ rfl [.slice p.ab lb.length p.cb] 52 (.slice (some ⟨wx.heap.size,0,none⟩) 1 1) 1 [.slice p.ag lg.length p.cg] rfl (by show Value.slice (some ⟨wx.heap.size+1,0,none⟩) 1 1=_;simp) rfl (by simp[Value.oneCell']) HO.o HBA.o (by simp) (by omega) (by omega) ?_)
     intro g cap w6 HO6 HB6 HOn6 hcap HAT;obtain⟨tl,htl⟩:=qFB HO6.o;obtain⟨os,hos⟩:=eX (([.slice p.ag lg.length p.cg,.slice p.ab lb.length p.cb]:List Value)++tl);rw[hos]at htl;have HOut:=hZ htl;have hgx:wx.heap.size<=g:=by
      rcases HAT.o with h|h
      ·have:=HO.o.lt g h;omega
      ·omega
     have HOU:Hid (∀o,o<2->∃oa oc lo,os[o]? =some (.slice oa lo.length oc)/\Hid (qAl wc (.slice oa lo.length oc) lo)/\Hid (qAM c.items.length 1000 2 lo)/\(qC4 c)[kj+o]? =some (j,qBE lt lo)):=hZ (fun o ho=>by
      have hl:=HL.o;rw[HD.o]at hl;have hr2:qEb j ⟨rn,false,rt,ro,lt,lg,lb⟩=[(j,qBE lt lg),(j,qBE lt lb)]:=by unfold qEb qCM;simp[hof]
      rw[hr2]at hl
      match o,ho with
      |0,_=>exact⟨p.ag,p.cg,lg,by rw[<-hos];rfl,hZ HR.o.give,hZ HGR.o.give,hl.at_ 0 (by simp)⟩
      |1,_=>exact⟨p.ab,p.cb,lb,by rw[<-hos];rfl,hZ HR.o.back,hZ HGR.o.back,hl.at_ 1 (by simp)⟩)
     have HL2:Hid (qFg (qC4 c) (qC3 (j+1) (c.rules.drop (j+1))) (kj+2)):=hZ (by
      have hl:=HL.o;rw[HD.o]at hl;have hr2:qEb j ⟨rn,false,rt,ro,lt,lg,lb⟩=[(j,qBE lt lg),(j,qBE lt lb)]:=by unfold qEb qCM;simp[hof]
      rw[hr2]at hl;exact hl.skip)
     clear hos htl HO6 HOn6 HAT HO HBA HL HD
     go_wp2_with fail
     have hm2:2<=2:=by omega
     obtain⟨wro,rfl⟩:=eY wr;obtain⟨bR,hbR⟩:=eX wro.heap.size;rw[hbR]at HRB;obtain⟨rc,hrc⟩:=eX (([.string ⟨rn.toArray⟩,.bool false,.int .i64 0,.int .i64 (rt:Int),.int .i64 1,.int .i64 (ro:Int),.slice p.at_ lt.length p.ct,.slice p.ag lg.length p.cg,.slice p.ab lb.length p.cb]:List Value));have HRC6:Hid (rc[6]? =some (.slice p.at_ lt.length p.ct)):=hZ (by rw[<-hrc];rfl);rw[hrc]at HRB;have HRST:Hid (∃f,RSt n0 c.items.length g bR os rc (J kj) f w6):=hZ (by
      obtain⟨f,hf⟩:=HFx.o;exact⟨f,HE.o.hA kj wx w6 HJx.o (qAc.of_below HB6.o),hf.below HB6.o hf.lt,HOut.o,HRB.o.below HB6.o HRB.o.lt⟩)
     rw[hbR];have hbRn:n0<bR:=by omega
     have hgn:n0<g:=by omega
     clear hbR hrc HRB HOut HB6 HFx HJx hwx hBx d1 d4 d5 d6 d7 d8
     go_loopw [42] (fun i wr=>∃o:Nat,o<=2/\i=.int .i64 o/\Hid (∃f,RSt n0 c.items.length g bR os rc (J (kj+o)) f wr)) (fun i _=>2-(intOf i).toNat)
     case atStart=>exact⟨0,by omega,rfl,HRST⟩
     case round=>
      clear HRST;obtain⟨o,ho,rfl,HI⟩:=hrel;by_cases hlto:o<2
      ·obtain⟨oa,oc,lo,hvo,HAMo,HGLo,hko⟩:=HOU.o o hlto
       have HKO:=hZ hko;obtain⟨ko,hkoe⟩:=eX (kj+o);rw[hkoe]at HI HKO;have HKE:Hid (kj+(o+1)=ko+1):=hZ (by omega);obtain⟨f0,hI⟩:=HI.o;have hszI:=(HE.o.hR ko wr hI.j).1;have v0:=hI.o.cell o;rw[hvo]at v0;obtain⟨W4,hW4⟩:=eX (wr.setCells n0 0 (List.replicate c.items.length (.int .i64 0)));have hO4:qAc (fun b=>b=n0) wr W4:=by rw[<-hW4];exact qES wr n0 0 _ 0 wr
       have hbag4:qAf W4 n0 3 (qBa c.items.length (fun _=>0)):=by
        have h9:=qI9 hI.f;rw[qB2,hW4]at h9;exact h9
       have HQ4:Hid (RSt n0 c.items.length g bR os rc (J ko) (fun _=>0) W4):=hZ (hI.only (HE.o.hA ko) hO4 hbag4 hgn hbRn hszI);have hclear:∀ty,(Builtin.clear_ #[22] ty #[.slice (some ⟨n0,0,none⟩) c.items.length c.items.length]).run Tryz.prog wr=.ok (.tuple #[]) W4:=fun ty=>by
        rw[<-hW4];exact Lib.run_clear_slice wr 22 3 ty (.int .i64 0) Tryz.underlying22 qPR rfl rfl n0 0 c.items.length c.items.length (by omega) (fun q hq=>by rw[Nat.zero_add,hI.f.cell,List.getElem?_eq_getElem (by rw[qB2];exact hq)];rfl) (fun q hq=>hI.f.frozen _)
       have j1:(0:Int)<=(o:Int):=by omega
       have j2:(o:Int)<(2:Int):=by omega
       have jq:decide ((o:Int)<(2:Int))=true:=decide_eq_true (by omega);clear hI HI hko hkoe hvo hO4 hbag4 hW4 hszI
       go_wp2_with fail
       clear hclear v0 j1 j2 jq;have hlo:=HGLo.o.len;obtain⟨wo4,rfl⟩:=eY wr
       go_loopw [49] (fun i wr=>∃k:Nat,k<=lo.length/\i=.int .i64 k/\Hid (RSt n0 c.items.length g bR os rc (J ko) (fun i=>(0:Int)+((ofI (lo.take k) i:Nat):Int)) wr)) (fun i _=>lo.length-(intOf i).toNat)
       case atStart=>exact⟨0,by omega,rfl,hZ (by simpa[qAR]using HQ4.o)⟩
       case round=>
        clear HQ4;obtain⟨k,hk,rfl,HQ⟩:=hrel;by_cases hlt2:k<lo.length
        ·have hJz:=HE.o.hR ko wr HQ.o.j
         have hsz3:=hJz.1;have hams:=HAMo.o.below hJz.2.2;obtain⟨b3,cap3,hv3,hb3,y0,y1⟩:=qAl.at_ hams k hlt2;injection hv3 with e1 e2 e3;clear e2 e3;have hit:=HGLo.o.all lo[k] (List.getElem_mem hlt2);have HST:=hZ (qF4 lo k hlt2 (fun _=>(0:Int)));have hol:=qBS HGLo.o lo[k].item;have hol2:=qBd lo k lo[k].item;have hbd:True:=trivial;generalize lo[k]=x at *;obtain⟨xi,xn⟩:=x
         try simp only[]at hit hol hol2 y0 y1 HST hbd
         obtain⟨z,hz⟩:=eX ((0:Int)+((ofI (lo.take k) xi:Nat):Int));have hzl: -100000000<=z/\z<=100000000:=by omega
         have hgl:=HQ.o.f.lt;have y2:=HQ.o.f.cell xi;rw[qBC _ _ _ hit.1]at y2
         try simp only[]at y2
         rw[hz]at y2;have y3:=HQ.o.f.frozen xi;rw[hz]at HST;have hgne:n0≠wr.heap.size:=by omega
         have i1:(0:Int)<=(xi:Int):=by omega
         have i2:(xi:Int)<(c.items.length:Int):=by omega
         have HE1:=hZ e1;clear hz hol hol2 e1 hJz hams hbd;rw[HE1.o]
         go_wp2_with fail
         go_region
         go_wp2_with fail
         go_roundw
         case rel=>
          refine⟨k+1,by omega,by go_num,hZ ?_⟩;refine HQ.o.only (HE.o.hA ko) ((((qAc.refl (fun b=>b=n0) wr).set (p:=⟨n0,xi,none⟩) rfl _).alloc _).drew) ?_ hgn hbRn hsz3;rw[<-HST.o,<-qB1];exact((HQ.o.f.set xi _).alloc _).drew
         case measure=>simp[intOf];omega
        ·have HQ5:Hid (RSt n0 c.items.length g bR os rc (J ko) (fun i=>(0:Int)+((ofI lo i:Nat):Int)) wr):=hZ (by
          have h9:=HQ.o;rw[List.take_of_length_le (show lo.length<=k by omega)]at h9;exact h9)
         have z6:=HQ5.o.r.cell 6;rw[HRC6.o]at z6;have hlt5:=HGR.o.take.len
         try simp only[]at hlt5
         clear HQ
         go_wp2_with fail
         clear z6;obtain⟨wo5,rfl⟩:=eY wr;have HAMt:=hZ HR.o.take;have HGLt:=hZ HGR.o.take
         try simp only[]at HAMt HGLt
         go_loopw [66] (fun i wr=>∃k:Nat,k<=lt.length/\i=.int .i64 k/\Hid (RSt n0 c.items.length g bR os rc (J ko) (fun i=>(0:Int)+((ofI lo i:Nat):Int)-((ofI (lt.take k) i:Nat):Int)) wr)) (fun i _=>lt.length-(intOf i).toNat)
         case atStart=>exact⟨0,by omega,rfl,hZ (by simpa[qAR]using HQ5.o)⟩
         case round=>
          clear HQ5;obtain⟨k,hk,rfl,HQ⟩:=hrel;by_cases hlt2:k<lt.length
          ·have hJz:=HE.o.hR ko wr HQ.o.j
           have hsz3:=hJz.1;have hams:=HAMt.o.below hJz.2.2;obtain⟨b3,cap3,hv3,hb3,y0,y1⟩:=qAl.at_ hams k hlt2;injection hv3 with e1 e2 e3;clear e2 e3;have hit:=HGLt.o.all lt[k] (List.getElem_mem hlt2);have HST:=hZ (qFA lt k hlt2 (fun i=>(0:Int)+((ofI lo i:Nat):Int)));have hol:=qBS HGLt.o lt[k].item;have hol2:=qBd lt k lt[k].item;have hbd:=qBS HGLo.o lt[k].item;generalize lt[k]=x at *;obtain⟨xi,xn⟩:=x
           try simp only[]at hit hol hol2 y0 y1 HST hbd
           obtain⟨z,hz⟩:=eX ((0:Int)+((ofI lo xi:Nat):Int)-((ofI (lt.take k) xi:Nat):Int));have hzl: -100000000<=z/\z<=100000000:=by omega
           have hgl:=HQ.o.f.lt;have y2:=HQ.o.f.cell xi;rw[qBC _ _ _ hit.1]at y2
           try simp only[]at y2
           rw[hz]at y2;have y3:=HQ.o.f.frozen xi;rw[hz]at HST;have hgne:n0≠wr.heap.size:=by omega
           have i1:(0:Int)<=(xi:Int):=by omega
           have i2:(xi:Int)<(c.items.length:Int):=by omega
           have HE1:=hZ e1;clear hz hol hol2 e1 hJz hams hbd;rw[HE1.o]
           go_wp2_with fail
           go_region
           go_wp2_with fail
           go_roundw
           case rel=>
            refine⟨k+1,by omega,by go_num,hZ ?_⟩;refine HQ.o.only (HE.o.hA ko) ((((qAc.refl (fun b=>b=n0) wr).set (p:=⟨n0,xi,none⟩) rfl _).alloc _).drew) ?_ hgn hbRn hsz3;rw[<-HST.o,<-qB1];exact((HQ.o.f.set xi _).alloc _).drew
           case measure=>simp[intOf];omega
          ·have HQ6:Hid (RSt n0 c.items.length g bR os rc (J ko) (qBE lt lo) wr):=hZ (by
            have h9:=HQ.o;rw[List.take_of_length_le (show lt.length<=k by omega)]at h9;have e:(fun i=>(0:Int)+((ofI lo i:Nat):Int)-((ofI lt i:Nat):Int))=qBE lt lo:=by funext i;unfold qBE;omega
            rw[e]at h9;exact h9)
           obtain⟨fn,tmps,assign,body,hyy,hRR⟩:=HE.o.hY ko j (qBE lt lo) wr HKO.o HQ6.o.j HQ6.o.f;have HRR:=hZ hRR;clear HQ hRR;refine(wpIn_wide (n:=30)).1 ?_
           gi_wp2
           refine(wpIn_wide (n:=30)).1 ?_
           repeat (first|go_values|gi_guarded|gi_step|gi_upon)
           refine HRR.o.mono ?_;rintro e W3 ⟨⟨rfl,hj⟩|⟨rfl,hj⟩,hK⟩
           ·have HR3:Hid (∃f,RSt n0 c.items.length g bR os rc (J (kj+(o+1))) f W3):=hZ (by
             rw[HKE.o];exact⟨_,hj,hK.2 _ _ _ (Nat.le_refl _) HQ6.o.f (.inl rfl),hK.2 _ _ _ (by omega) HQ6.o.o (.inr (by decide)),hK.2 _ _ _ (by omega) HQ6.o.r (.inr (by decide))⟩)
            clear hj hK HQ6 hyy HRR HKO HKE;simp only[]
            repeat (first|go_values|gi_guarded|gi_step|gi_upon)
            go_wp2_with fail
            go_roundw
            case rel=>exact⟨o+1,by omega,by go_num,HR3⟩
            case measure=>simp[intOf];omega
           ·simp only[]
            repeat (first|go_values|gi_guarded|gi_step|gi_upon)
            exact bodyPost_ret (results_none rfl _ _ _) rfl ⟨⟨_,rfl⟩,.inr hj⟩
      ·obtain rfl:o=2:=by omega
       have HJ9:Hid (J (kj+2) wr):=hZ (by obtain⟨f,hf⟩:=HI.o;exact hf.j);have HF9:Hid (∃f,qAf wr n0 3 (qBa c.items.length f)):=hZ (by obtain⟨f,hf⟩:=HI.o;exact⟨f,hf.f⟩);clear HI HOU
       go_wp2_with fail
       go_roundw
       case rel=>exact⟨j+1,kj+2,by omega,by go_num,HJ9,HF9,HL2⟩
       case measure=>simp[intOf];omega
    ·have q1:decide ((1:Int)<(ro:Int))=false:=decide_eq_false (by omega)
     have q2:decide (1<ro)=false:=decide_eq_false hof;obtain⟨w6,hw6⟩:=eX (wx.alloc (.cells #[.slice p.ag lg.length p.cg] 52));have HB6:Hid (Below wx.heap.size wx w6):=hZ (by rw[<-hw6];exact aR);obtain⟨os,hos⟩:=eX (([.slice p.ag lg.length p.cg]:List Value));have HOut:Hid (qAf w6 wx.heap.size 52 os):=hZ (by rw[<-hw6,<-hos];exact qAf.new _ _ _);have HOU:Hid (∀o,o<1->∃oa oc lo,os[o]? =some (.slice oa lo.length oc)/\Hid (qAl wc (.slice oa lo.length oc) lo)/\Hid (qAM c.items.length 1000 2 lo)/\(qC4 c)[kj+o]? =some (j,qBE lt lo)):=hZ (fun o ho=>by
      have hl:=HL.o;rw[HD.o]at hl;have hr2:qEb j ⟨rn,false,rt,ro,lt,lg,lb⟩=[(j,qBE lt lg)]:=by unfold qEb qCM;simp[hof]
      rw[hr2]at hl
      match o,ho with
      |0,_=>exact⟨p.ag,p.cg,lg,by rw[<-hos];rfl,hZ HR.o.give,hZ HGR.o.give,hl.at_ 0 (by simp)⟩)
     have HL2:Hid (qFg (qC4 c) (qC3 (j+1) (c.rules.drop (j+1))) (kj+1)):=hZ (by
      have hl:=HL.o;rw[HD.o]at hl;have hr2:qEb j ⟨rn,false,rt,ro,lt,lg,lb⟩=[(j,qBE lt lg)]:=by unfold qEb qCM;simp[hof]
      rw[hr2]at hl;exact hl.skip)
     have hrb6:=HRB.o.below HB6.o HRB.o.lt;have f4:=hrb6.cell 4;have f5:=hrb6.cell 5;simp only[List.getElem?_cons_succ,List.getElem?_cons_zero]at f4 f5;clear hos HL HD hrb6
     go_wp2_with fail
     clear hw6 f4 f5;obtain⟨g,hg⟩:=eX wx.heap.size;have hgx:wx.heap.size<=g:=by omega
     rw[hg]at HOut ⊢;clear hg;have hm2:1<=2:=by omega
     obtain⟨wro,rfl⟩:=eY wr;obtain⟨bR,hbR⟩:=eX wro.heap.size;rw[hbR]at HRB;obtain⟨rc,hrc⟩:=eX (([.string ⟨rn.toArray⟩,.bool false,.int .i64 0,.int .i64 (rt:Int),.int .i64 1,.int .i64 (ro:Int),.slice p.at_ lt.length p.ct,.slice p.ag lg.length p.cg,.slice p.ab lb.length p.cb]:List Value));have HRC6:Hid (rc[6]? =some (.slice p.at_ lt.length p.ct)):=hZ (by rw[<-hrc];rfl);rw[hrc]at HRB;have HRST:Hid (∃f,RSt n0 c.items.length g bR os rc (J kj) f w6):=hZ (by
      obtain⟨f,hf⟩:=HFx.o;exact⟨f,HE.o.hA kj wx w6 HJx.o (qAc.of_below HB6.o),hf.below HB6.o hf.lt,HOut.o,HRB.o.below HB6.o HRB.o.lt⟩)
     rw[hbR];have hbRn:n0<bR:=by omega
     have hgn:n0<g:=by omega
     clear hbR hrc HRB HOut HB6 HFx HJx hwx hBx d1 d4 d5 d6 d7 d8
     go_loopw [42] (fun i wr=>∃o:Nat,o<=1/\i=.int .i64 o/\Hid (∃f,RSt n0 c.items.length g bR os rc (J (kj+o)) f wr)) (fun i _=>1-(intOf i).toNat)
     case atStart=>exact⟨0,by omega,rfl,HRST⟩
     case round=>
      clear HRST;obtain⟨o,ho,rfl,HI⟩:=hrel;by_cases hlto:o<1
      ·obtain⟨oa,oc,lo,hvo,HAMo,HGLo,hko⟩:=HOU.o o hlto
       have HKO:=hZ hko;obtain⟨ko,hkoe⟩:=eX (kj+o);rw[hkoe]at HI HKO;have HKE:Hid (kj+(o+1)=ko+1):=hZ (by omega);obtain⟨f0,hI⟩:=HI.o;have hszI:=(HE.o.hR ko wr hI.j).1;have v0:=hI.o.cell o;rw[hvo]at v0;obtain⟨W4,hW4⟩:=eX (wr.setCells n0 0 (List.replicate c.items.length (.int .i64 0)));have hO4:qAc (fun b=>b=n0) wr W4:=by rw[<-hW4];exact qES wr n0 0 _ 0 wr
       have hbag4:qAf W4 n0 3 (qBa c.items.length (fun _=>0)):=by
        have h9:=qI9 hI.f;rw[qB2,hW4]at h9;exact h9
       have HQ4:Hid (RSt n0 c.items.length g bR os rc (J ko) (fun _=>0) W4):=hZ (hI.only (HE.o.hA ko) hO4 hbag4 hgn hbRn hszI);have hclear:∀ty,(Builtin.clear_ #[22] ty #[.slice (some ⟨n0,0,none⟩) c.items.length c.items.length]).run Tryz.prog wr=.ok (.tuple #[]) W4:=fun ty=>by
        rw[<-hW4];exact Lib.run_clear_slice wr 22 3 ty (.int .i64 0) Tryz.underlying22 qPR rfl rfl n0 0 c.items.length c.items.length (by omega) (fun q hq=>by rw[Nat.zero_add,hI.f.cell,List.getElem?_eq_getElem (by rw[qB2];exact hq)];rfl) (fun q hq=>hI.f.frozen _)
       have j1:(0:Int)<=(o:Int):=by omega
       have j2:(o:Int)<(1:Int):=by omega
       have jq:decide ((o:Int)<(1:Int))=true:=decide_eq_true (by omega);clear hI HI hko hkoe hvo hO4 hbag4 hW4 hszI
       go_wp2_with fail
       clear hclear v0 j1 j2 jq;have hlo:=HGLo.o.len;obtain⟨wo4,rfl⟩:=eY wr
       go_loopw [49] (fun i wr=>∃k:Nat,k<=lo.length/\i=.int .i64 k/\Hid (RSt n0 c.items.length g bR os rc (J ko) (fun i=>(0:Int)+((ofI (lo.take k) i:Nat):Int)) wr)) (fun i _=>lo.length-(intOf i).toNat)
       case atStart=>exact⟨0,by omega,rfl,hZ (by simpa[qAR]using HQ4.o)⟩
       case round=>
        clear HQ4;obtain⟨k,hk,rfl,HQ⟩:=hrel;by_cases hlt2:k<lo.length
        ·have hJz:=HE.o.hR ko wr HQ.o.j
         have hsz3:=hJz.1;have hams:=HAMo.o.below hJz.2.2;obtain⟨b3,cap3,hv3,hb3,y0,y1⟩:=qAl.at_ hams k hlt2;injection hv3 with e1 e2 e3;clear e2 e3;have hit:=HGLo.o.all lo[k] (List.getElem_mem hlt2);have HST:=hZ (qF4 lo k hlt2 (fun _=>(0:Int)));have hol:=qBS HGLo.o lo[k].item;have hol2:=qBd lo k lo[k].item;have hbd:True:=trivial;generalize lo[k]=x at *;obtain⟨xi,xn⟩:=x
         try simp only[]at hit hol hol2 y0 y1 HST hbd
         obtain⟨z,hz⟩:=eX ((0:Int)+((ofI (lo.take k) xi:Nat):Int));have hzl: -100000000<=z/\z<=100000000:=by omega
         have hgl:=HQ.o.f.lt;have y2:=HQ.o.f.cell xi;rw[qBC _ _ _ hit.1]at y2
         try simp only[]at y2
         rw[hz]at y2;have y3:=HQ.o.f.frozen xi;rw[hz]at HST;have hgne:n0≠wr.heap.size:=by omega
         have i1:(0:Int)<=(xi:Int):=by omega
         have i2:(xi:Int)<(c.items.length:Int):=by omega
         have HE1:=hZ e1;clear hz hol hol2 e1 hJz hams hbd;rw[HE1.o]
         go_wp2_with fail
         go_region
         go_wp2_with fail
         go_roundw
         case rel=>
          refine⟨k+1,by omega,by go_num,hZ ?_⟩;refine HQ.o.only (HE.o.hA ko) ((((qAc.refl (fun b=>b=n0) wr).set (p:=⟨n0,xi,none⟩) rfl _).alloc _).drew) ?_ hgn hbRn hsz3;rw[<-HST.o,<-qB1];exact((HQ.o.f.set xi _).alloc _).drew
         case measure=>simp[intOf];omega
        ·have HQ5:Hid (RSt n0 c.items.length g bR os rc (J ko) (fun i=>(0:Int)+((ofI lo i:Nat):Int)) wr):=hZ (by
          have h9:=HQ.o;rw[List.take_of_length_le (show lo.length<=k by omega)]at h9;exact h9)
         have z6:=HQ5.o.r.cell 6;rw[HRC6.o]at z6;have hlt5:=HGR.o.take.len
         try simp only[]at hlt5
         clear HQ
         go_wp2_with fail
         clear z6;obtain⟨wo5,rfl⟩:=eY wr;have HAMt:=hZ HR.o.take;have HGLt:=hZ HGR.o.take
         try simp only[]at HAMt HGLt
         go_loopw [66] (fun i wr=>∃k:Nat,k<=lt.length/\i=.int .i64 k/\Hid (RSt n0 c.items.length g bR os rc (J ko) (fun i=>(0:Int)+((ofI lo i:Nat):Int)-((ofI (lt.take k) i:Nat):Int)) wr)) (fun i _=>lt.length-(intOf i).toNat)
         case atStart=>exact⟨0,by omega,rfl,hZ (by simpa[qAR]using HQ5.o)⟩
         case round=>
          clear HQ5;obtain⟨k,hk,rfl,HQ⟩:=hrel;by_cases hlt2:k<lt.length
          ·have hJz:=HE.o.hR ko wr HQ.o.j
           have hsz3:=hJz.1;have hams:=HAMt.o.below hJz.2.2;obtain⟨b3,cap3,hv3,hb3,y0,y1⟩:=qAl.at_ hams k hlt2;injection hv3 with e1 e2 e3;clear e2 e3;have hit:=HGLt.o.all lt[k] (List.getElem_mem hlt2);have HST:=hZ (qFA lt k hlt2 (fun i=>(0:Int)+((ofI lo i:Nat):Int)));have hol:=qBS HGLt.o lt[k].item;have hol2:=qBd lt k lt[k].item;have hbd:=qBS HGLo.o lt[k].item;generalize lt[k]=x at *;obtain⟨xi,xn⟩:=x
           try simp only[]at hit hol hol2 y0 y1 HST hbd
           obtain⟨z,hz⟩:=eX ((0:Int)+((ofI lo xi:Nat):Int)-((ofI (lt.take k) xi:Nat):Int));have hzl: -100000000<=z/\z<=100000000:=by omega
           have hgl:=HQ.o.f.lt;have y2:=HQ.o.f.cell xi;rw[qBC _ _ _ hit.1]at y2
           try simp only[]at y2
           rw[hz]at y2;have y3:=HQ.o.f.frozen xi;rw[hz]at HST;have hgne:n0≠wr.heap.size:=by omega
           have i1:(0:Int)<=(xi:Int):=by omega
           have i2:(xi:Int)<(c.items.length:Int):=by omega
           have HE1:=hZ e1;clear hz hol hol2 e1 hJz hams hbd;rw[HE1.o]
           go_wp2_with fail
           go_region
           go_wp2_with fail
           go_roundw
           case rel=>
            refine⟨k+1,by omega,by go_num,hZ ?_⟩;refine HQ.o.only (HE.o.hA ko) ((((qAc.refl (fun b=>b=n0) wr).set (p:=⟨n0,xi,none⟩) rfl _).alloc _).drew) ?_ hgn hbRn hsz3;rw[<-HST.o,<-qB1];exact((HQ.o.f.set xi _).alloc _).drew
           case measure=>simp[intOf];omega
          ·have HQ6:Hid (RSt n0 c.items.length g bR os rc (J ko) (qBE lt lo) wr):=hZ (by
            have h9:=HQ.o;rw[List.take_of_length_le (show lt.length<=k by omega)]at h9;have e:(fun i=>(0:Int)+((ofI lo i:Nat):Int)-((ofI lt i:Nat):Int))=qBE lt lo:=by funext i;unfold qBE;omega
            rw[e]at h9;exact h9)
           obtain⟨fn,tmps,assign,body,hyy,hRR⟩:=HE.o.hY ko j (qBE lt lo) wr HKO.o HQ6.o.j HQ6.o.f;have HRR:=hZ hRR;clear HQ hRR;refine(wpIn_wide (n:=30)).1 ?_
           gi_wp2
           refine(wpIn_wide (n:=30)).1 ?_
           repeat (first|go_values|gi_guarded|gi_step|gi_upon)
           refine HRR.o.mono ?_;rintro e W3 ⟨⟨rfl,hj⟩|⟨rfl,hj⟩,hK⟩
           ·have HR3:Hid (∃f,RSt n0 c.items.length g bR os rc (J (kj+(o+1))) f W3):=hZ (by
             rw[HKE.o];exact⟨_,hj,hK.2 _ _ _ (Nat.le_refl _) HQ6.o.f (.inl rfl),hK.2 _ _ _ (by omega) HQ6.o.o (.inr (by decide)),hK.2 _ _ _ (by omega) HQ6.o.r (.inr (by decide))⟩)
            clear hj hK HQ6 hyy HRR HKO HKE;simp only[]
            repeat (first|go_values|gi_guarded|gi_step|gi_upon)
            go_wp2_with fail
            go_roundw
            case rel=>exact⟨o+1,by omega,by go_num,HR3⟩
            case measure=>simp[intOf];omega
           ·simp only[]
            repeat (first|go_values|gi_guarded|gi_step|gi_upon)
            exact bodyPost_ret (results_none rfl _ _ _) rfl ⟨⟨_,rfl⟩,.inr hj⟩
      ·obtain rfl:o=1:=by omega
       have HJ9:Hid (J (kj+1) wr):=hZ (by obtain⟨f,hf⟩:=HI.o;exact hf.j);have HF9:Hid (∃f,qAf wr n0 3 (qBa c.items.length f)):=hZ (by obtain⟨f,hf⟩:=HI.o;exact⟨f,hf.f⟩);clear HI HOU
       go_wp2_with fail
       go_roundw
       case rel=>exact⟨j+1,kj+1,by omega,by go_num,HJ9,HF9,HL2⟩
       case measure=>simp[intOf];omega
  ·have HJ9:Hid (J (qC4 c).length wr):=hZ (by
    have h9:=HL.o.1;rw[List.drop_of_length_le (show c.rules.length<=j by omega)]at h9;have h8:=HJ.o;have e:kj=(qC4 c).length:=by simpa[qC3]using h9
    rw[e]at h8;exact h8)
   clear HJ HL HFk
   go_wp2_with fail
   go_end0
   exact⟨⟨_,rfl⟩,.inl HJ9.o⟩
theorem qDT(a1 a2:Option Addr)(n1 c1 n2 c2:Nat)(w:World):Calls Tryz.prog 45 #[.agg #[.slice a1 n1 c1,.slice a2 n2 c2,.slice none 0 0,.slice none 0 0]] w fun e w'=>e=.returned (.func (.func 109) #[] #[.pointer (some ⟨w.heap.size,0,none⟩)])/\w.alloc (.cells #[.slice a1 n1 c1,.slice a2 n2 c2,.slice none 0 0,.slice none 0 0] 28)=w':=by
 go_enter Tryz.func45,Tryz.ntmps45
 go_wp2_with fail
 go_ret;exact⟨rfl,rfl⟩
theorem qOa(n:Nat):(List.replicate n (0:Int)).map zv=qBa n (fun _=>0):=by
 refine List.ext_getElem (by simp[qB2]) (fun i h1 h2=> ?_);rw[qB2]at h2;have h3:=qBC n (fun _=>0) i h2;rw[List.getElem?_eq_getElem (by rw[qB2];exact h2)]at h3;injection h3 with h3;rw[h3];simp[zv]
theorem qKJ(l:List Amt)(k:Nat)(h:k<l.length)(i:Nat):ofI (l.take (k+1)) i=ofI (l.take k) i+(if i=l[k].item then l[k].n else 0):=by
 rw[List.take_succ_eq_append_getElem h,qB5,qEd,qAR,Nat.add_zero];by_cases e:l[k].item=i
 ·rw[if_pos e,if_pos e.symm]
 ·rw[if_neg e,if_neg (Ne.symm e)]
theorem qMY{n M K:Nat}{l:List Amt}(h:qAM n M K l)(k i:Nat):ofI (l.take k) i<=ofI l i:=by
 conv=>rhs;rw[<-List.take_append_drop k l,qB5]
 exact Nat.le_add_right _ _
theorem qNv{n M K:Nat}{l:List Amt}(h:qAM n M K l)(k:Nat)(hk:k<l.length):l[k].item<n/\l[k].n<=M:=⟨(h.all _ (List.getElem_mem hk)).1,(h.all _ (List.getElem_mem hk)).2.2⟩
theorem qJg(n:Nat)(f:Nat->Int):∀u∈qBa n f,∀x,u≠ .int .u32 x:=by
 intro u hu x e;obtain⟨i,_,rfl⟩:=List.mem_map.1 hu;cases e
theorem qG7(w0:World)(vt vg:Value)(lt lg:List Amt)(n:Nat)(ht:qAl w0 vt lt)(hg:qAl w0 vg lg)(gt:qAM n 1000 2 lt)(gg:qAM n 1000 2 lg)(hn:n<=1000)(h1:lt.length<=1000)(h2:lg.length<=1000):
 Calls Tryz.prog 126 #[.int .i64 n,vt,vg] w0 fun e w'=>∃g,e=.returned (.slice (some ⟨g,0,none⟩) n n)/\qAf w' g 3 (qBa n (qBE lt lg))/\w0.heap.size<=g/\Below w0.heap.size w0 w':=by
 have HT:=hZ ht;have HG:=hZ hg;have GT:=hZ gt;have GG:=hZ gg;have HB:=hZ (Below.refl w0.heap.size w0);obtain⟨at_,ct,rfl, -,-⟩:=qAb.form ht;obtain⟨ag,cg,rfl, -,-⟩:=qAb.form hg;clear ht hg gt gg
 go_enter Tryz.func126,Tryz.ntmps126
 go_wp2_with (at_make;refine qBq rfl rfl (n) rfl rfl rfl rfl (by omega) ?_)
 intro w1 h_9 hB hlt9;obtain⟨g,hb⟩:=eX w0.heap.size;rw[hb]at h_9 ⊢;have Oc':=hZ h_9;have hge_g:Hid (w0.heap.size<=g):=hZ (Nat.le_of_eq hb);have hlt_g:Hid (g<w1.heap.size):=hZ (by rw[<-hb];exact hlt9);clear h_9 hb hlt9;replace HB:=bT HB hB;clear hB;have Oc:=Oc';clear Oc';replace Oc:Hid (qAf w1 g 3 (qBa n (fun i=>(0:Int)-(ofI (lt.take 0) i:Nat)))):=hZ (by have h9:=Oc.o;rw[qCD n _ (fun _=>0) (fun i _=>by simp[qAR]),<-qOa];simpa using h9);have HGg:Hid (w0.heap.size<=g):=hge_g;clear hge_g hlt_g
 go_wp2_with fail
 go_loopw [8] (fun i wr=>∃k:Nat,k<=lt.length/\i=.int .i64 k/\Hid (qAf wr g 3 (qBa n (fun i=>(0:Int)-(ofI (lt.take k) i:Nat))))/\Hid (Below w0.heap.size w0 wr)) (fun i _=>lt.length-(intOf i).toNat)
 case atStart=>exact⟨0,by omega,rfl,Oc,HB⟩
 case round=>
  clear Oc HB;obtain⟨k,hk,rfl,Oc,HB⟩:=hrel;obtain⟨w1,rfl⟩:=eY wr;by_cases hkl:k<lt.length
  ·skip
   have k1:(0:Int)<=(k:Int):=by omega
   have k2:(k:Int)<(lt.length:Int):=by omega
   obtain⟨b,cap,hv,hb,m0,m1⟩:=HT.o.at_ k hkl;injection hv with f1 f2 f3;subst f1;clear f2 f3;have hit:lt[k].item<n/\lt[k].n<=1000:=qNv GT.o k hkl;have HSn:=hZ (fun i=>qKJ lt k hkl i);have hpr:=qMY GT.o k lt[k].item;have hbd:=qKK GT.o lt[k].item;have Hm:=hZ (And.intro m0 m1);clear m0 m1;obtain⟨it,hi9⟩:=eX (lt[k].item);obtain⟨N,hN9⟩:=eX (lt[k].n);rw[hi9,hN9]at Hm;simp only[hi9,hN9]at hit HSn hpr hbd;clear hi9 hN9;have i1:(0:Int)<=(it:Int):=by omega
   have i2:(it:Int)<(n:Int):=by omega
   obtain⟨s0,hs0⟩:=eX ((fun i=>(0:Int)-(ofI (lt.take k) i:Nat)) it);have Hs0:=hZ hs0;simp only[]at hs0;obtain⟨s1,hs1⟩:=eX (s0-(N:Int));have ws:IntKind.i64.wrap (s0-(N:Int))=s1:=by rw[hs1];exact IntWalk.i64_in _ (by omega)
   have ws1:IntKind.i64.wrap s1=s1:=IntWalk.i64_in _ (by omega);have Hs1:=hZ hs1;clear hs0 hs1 hpr hbd
   go_wp2_with fail
   obtain⟨w2,hwd⟩:=eX w1.drew;have hB:=dB hwd;replace Oc:=Oc.b hB;replace HB:=bT HB hB;clear hB;have HBr:Hid (qAc (fun b=>False) w2 w2):=hZ (qAc.refl _ _);refine qAU [21] (fun w'=>qAc (fun b=>False) w2 w') (by kernel_rfl) (by rw[hwd];exact qAc.refl _ _) (fun hHeld=> ?_);rw[hwd]at hHeld ⊢;clear hwd;have m0:=(HB.o.cell (p:=⟨b,k*2,none⟩) hb).trans Hm.o.1;have m1:=(HB.o.cell (p:=⟨b,k*2+1,none⟩) hb).trans Hm.o.2;have l0:=Nat.lt_of_lt_of_le hb HB.o.size;have l1:=Oc.o.lt;have f0:w2.cell? ⟨g,it,none⟩=some (.int .i64 s0):=(Oc.o.cell it).trans (by rw[qBC n _ it (by omega),<-Hs0.o]);refine pU 0 18 ?_;refine pU 1 19 ?_;refine pU 2 20 ?_;refine pU 3 21 ?_;refine pU 4 22 ?_;refine tU 5 23 (cF m0 l0) ?_;refine pU 6 24 ?_;refine pU 7 25 ?_;refine pU 8 26 ?_;refine pU 9 27 ?_;refine pU 10 28 ?_;refine tU 11 29 (cF m0 l0) ?_;refine pU 12 30 ?_;refine tU 13 31 (cF f0 l1) ?_;refine pU 14 32 ?_;refine pU 15 33 ?_;refine pU 16 34 ?_;refine pU 17 35 ?_;refine tU 18 36 (cF m1 l0) ?_;refine pU 19 37 ?_;refine pU 20 38 ?_;clear m0 m1 l0 l1 f0;have e1:w2.cell? ⟨g,it,none⟩=some (.int .i64 s0):=(Oc.o.cell it).trans (by rw[qBC n _ it (by omega),<-Hs0.o]);have e2:=Oc.o.frozen (it);obtain⟨w3,hw⟩:=eX (w2.setCell ⟨g,it,none⟩ (.int .i64 s1));have ho:qAc (fun b=>b=g) w2 w3:=by rw[<-hw];exact(qAc.refl (fun b=>b=g) _).set (p:=⟨g,it,none⟩) rfl _
   have hN:∀b,b=g->qAi w2 b:=fun b e=>e▸Oc.o.noInt (qJg n _);replace Oc:=hZ ((by have h1:=Oc.o.set it (.int .i64 s1);rw[hw,qB1,qCD n _ (fun i=>(0:Int)-(ofI (lt.take (k+1)) i:Nat)) (fun i _=>by rw[HSn.o i];by_cases e9:i=it;subst e9;rw[if_pos rfl,if_pos rfl,<-Hs1.o,<-Hs0.o];(try simp only[]);omega;rw[if_neg e9,if_neg e9];(try simp only[]);omega)]at h1;exact h1));replace HB:=hZ (qAY HB.o ho (fun b e=>by have:=HGg.o;omega) HB.o.size);clear ho hN;refine lU 21 fun K hK=> ?_;go_simp
   try rw[hw]
   refine hK.out _ _ ?_;clear hK K
   try simp only[Act.put,sX1,sX2,sX3]
   clear hw e1 e2;refine dU ?_;clear hHeld
   go_wp2_with fail
   go_roundw
   case rel=>exact⟨k+1,by omega,by go_num,Oc,HB⟩
   case measure=>simp[intOf];omega
  ·skip
   have hke:k=lt.length:=by omega
   replace Oc:Hid (qAf w1 g 3 (qBa n (fun i=>(0:Int)-(ofI lt i:Nat)+(ofI (lg.take 0) i:Nat)))):=hZ (by have h9:=Oc.o;rw[hke,List.take_length]at h9;first|exact h9|(rw[qCD n _ (fun i=>(0:Int)-(ofI lt i:Nat)+(ofI (lg.take 0) i:Nat)) (fun i _=>by first|rfl|(simp[qAR,qBE];done)|(simp[qAR,qBE];omega))]at h9;exact h9));have k2:¬(k:Int)<(lt.length:Int):=by omega
   clear hke hkl
   go_wp2_with fail
   clear k2
   go_loopw [9] (fun i wr=>∃k:Nat,k<=lg.length/\i=.int .i64 k/\Hid (qAf wr g 3 (qBa n (fun i=>(0:Int)-(ofI lt i:Nat)+(ofI (lg.take k) i:Nat))))/\Hid (Below w0.heap.size w0 wr)) (fun i _=>lg.length-(intOf i).toNat)
   case atStart=>exact⟨0,by omega,rfl,Oc,HB⟩
   case round=>
    clear Oc HB;obtain⟨k,hk,rfl,Oc,HB⟩:=hrel;obtain⟨w1,rfl⟩:=eY wr;by_cases hkl:k<lg.length
    ·skip
     have k1:(0:Int)<=(k:Int):=by omega
     have k2:(k:Int)<(lg.length:Int):=by omega
     obtain⟨b,cap,hv,hb,m0,m1⟩:=HG.o.at_ k hkl;injection hv with f1 f2 f3;subst f1;clear f2 f3;have hit:lg[k].item<n/\lg[k].n<=1000:=qNv GG.o k hkl;have HSn:=hZ (fun i=>qKJ lg k hkl i);have hpr:=qMY GG.o k lg[k].item;have hbd:=qKK GG.o lg[k].item;have Hm:=hZ (And.intro m0 m1);clear m0 m1;obtain⟨it,hi9⟩:=eX (lg[k].item);obtain⟨N,hN9⟩:=eX (lg[k].n);rw[hi9,hN9]at Hm;simp only[hi9,hN9]at hit HSn hpr hbd;clear hi9 hN9;have i1:(0:Int)<=(it:Int):=by omega
     have i2:(it:Int)<(n:Int):=by omega
     obtain⟨s0,hs0⟩:=eX ((fun i=>(0:Int)-(ofI lt i:Nat)+(ofI (lg.take k) i:Nat)) it);have Hs0:=hZ hs0;simp only[]at hs0;obtain⟨s1,hs1⟩:=eX (s0+(N:Int));have ws:IntKind.i64.wrap (s0+(N:Int))=s1:=by rw[hs1];exact IntWalk.i64_in _ (by have h7:=qKK GT.o it;omega)
     have ws1:IntKind.i64.wrap s1=s1:=IntWalk.i64_in _ (by have h7:=qKK GT.o it;omega);have Hs1:=hZ hs1;clear hs0 hs1 hpr hbd
     go_wp2_with fail
     obtain⟨w2,hwd⟩:=eX w1.drew;have hB:=dB hwd;replace Oc:=Oc.b hB;replace HB:=bT HB hB;clear hB;have HBr:Hid (qAc (fun b=>False) w2 w2):=hZ (qAc.refl _ _);refine qAU [21] (fun w'=>qAc (fun b=>False) w2 w') (by kernel_rfl) (by rw[hwd];exact qAc.refl _ _) (fun hHeld=> ?_);rw[hwd]at hHeld ⊢;clear hwd;have m0:=(HB.o.cell (p:=⟨b,k*2,none⟩) hb).trans Hm.o.1;have m1:=(HB.o.cell (p:=⟨b,k*2+1,none⟩) hb).trans Hm.o.2;have l0:=Nat.lt_of_lt_of_le hb HB.o.size;have l1:=Oc.o.lt;have f0:w2.cell? ⟨g,it,none⟩=some (.int .i64 s0):=(Oc.o.cell it).trans (by rw[qBC n _ it (by omega),<-Hs0.o]);refine pU 0 45 ?_;refine pU 1 46 ?_;refine pU 2 47 ?_;refine pU 3 48 ?_;refine pU 4 49 ?_;refine tU 5 50 (cF m0 l0) ?_;refine pU 6 51 ?_;refine pU 7 52 ?_;refine pU 8 53 ?_;refine pU 9 54 ?_;refine pU 10 55 ?_;refine tU 11 56 (cF m0 l0) ?_;refine pU 12 57 ?_;refine tU 13 58 (cF f0 l1) ?_;refine pU 14 59 ?_;refine pU 15 60 ?_;refine pU 16 61 ?_;refine pU 17 62 ?_;refine tU 18 63 (cF m1 l0) ?_;refine pU 19 64 ?_;refine pU 20 65 ?_;clear m0 m1 l0 l1 f0;have e1:w2.cell? ⟨g,it,none⟩=some (.int .i64 s0):=(Oc.o.cell it).trans (by rw[qBC n _ it (by omega),<-Hs0.o]);have e2:=Oc.o.frozen (it);obtain⟨w3,hw⟩:=eX (w2.setCell ⟨g,it,none⟩ (.int .i64 s1));have ho:qAc (fun b=>b=g) w2 w3:=by rw[<-hw];exact(qAc.refl (fun b=>b=g) _).set (p:=⟨g,it,none⟩) rfl _
     have hN:∀b,b=g->qAi w2 b:=fun b e=>e▸Oc.o.noInt (qJg n _);replace Oc:=hZ ((by have h1:=Oc.o.set it (.int .i64 s1);rw[hw,qB1,qCD n _ (fun i=>(0:Int)-(ofI lt i:Nat)+(ofI (lg.take (k+1)) i:Nat)) (fun i _=>by rw[HSn.o i];by_cases e9:i=it;subst e9;rw[if_pos rfl,if_pos rfl,<-Hs1.o,<-Hs0.o];(try simp only[]);omega;rw[if_neg e9,if_neg e9];(try simp only[]);omega)]at h1;exact h1));replace HB:=hZ (qAY HB.o ho (fun b e=>by have:=HGg.o;omega) HB.o.size);clear ho hN;refine lU 21 fun K hK=> ?_;go_simp
     try rw[hw]
     refine hK.out _ _ ?_;clear hK K
     try simp only[Act.put,sX1,sX2,sX3]
     clear hw e1 e2;refine dU ?_;clear hHeld
     go_wp2_with fail
     go_roundw
     case rel=>exact⟨k+1,by omega,by go_num,Oc,HB⟩
     case measure=>simp[intOf];omega
    ·skip
     have hke:k=lg.length:=by omega
     replace Oc:Hid (qAf w1 g 3 (qBa n (qBE lt lg))):=hZ (by have h9:=Oc.o;rw[hke,List.take_length]at h9;first|exact h9|(rw[qCD n _ (qBE lt lg) (fun i _=>by first|rfl|(simp[qAR,qBE];done)|(simp[qAR,qBE];omega))]at h9;exact h9));have k2:¬(k:Int)<(lg.length:Int):=by omega
     clear hke hkl
     go_wp2_with fail
     clear k2;go_ret;exact⟨g,rfl,Oc.o,HGg.o,HB.o⟩
theorem qIs(r:Rul):∀(k:Nat) (l:List Rul),qC3 k (l++[r])=qC3 k l++qEb (k+l.length) r
 |k,[]=>by simp[qC3]
 |k,a::l=>by
  simp only[List.cons_append,qC3,qIs r (k+1) l,List.append_assoc,List.length_cons];rw[show k+1+l.length=k+(l.length+1) by omega]
theorem qMI(c:Cat)(j:Nat)(h:j<c.rules.length):qC3 0 (c.rules.take (j+1))=qC3 0 (c.rules.take j)++qEb j c.rules[j]:=by
 rw[List.take_succ_eq_append_getElem h,qIs,List.length_take,Nat.min_eq_left (by omega),Nat.zero_add]
theorem qLy{j:Nat}{r:Rul}(h:r.spawn=true):qEb j r=[]:=by unfold qEb;rw[if_pos h]
theorem qOz{j:Nat}{r:Rul}(h:r.spawn=false)(h2:¬1<r.of_):qEb j r=[(j,qBE r.take r.give)]:=by unfold qEb qCM;rw[if_neg (by rw[h];decide),if_neg h2];rfl
theorem qOy{j:Nat}{r:Rul}(h:r.spawn=false)(h2:1<r.of_):qEb j r=[(j,qBE r.take r.give),(j,qBE r.take r.back)]:=by unfold qEb qCM;rw[if_neg (by rw[h];decide),if_pos h2];rfl
def qOh(n:Nat)(x:Nat×Nat):List Value:=[zv x.1,.slice (some ⟨x.2,0,none⟩) n n]
def qD1(w:World)(n:Nat)(l:List (Nat×Nat))(L:List (Nat×(Nat->Int))):Prop:=l.length=L.length/\∀q (h:q<l.length) (h':q<L.length),l[q].1=L[q].1/\qAf w l[q].2 3 (qBa n L[q].2)
theorem qD1.nil(w:World)(n:Nat):qD1 w n [] []:=⟨rfl,fun q h=>by simp at h⟩
theorem qD1.below{w w':World}{n:Nat}{l:List (Nat×Nat)}{L:List (Nat×(Nat->Int))}(h:qD1 w n l L)(hb:Below w.heap.size w w'):qD1 w' n l L:=
 ⟨h.1,fun q h1 h2=>⟨(h.2 q h1 h2).1,(h.2 q h1 h2).2.below hb (h.2 q h1 h2).2.lt⟩⟩
theorem qD1.snoc{w:World}{n:Nat}{l:List (Nat×Nat)}{L:List (Nat×(Nat->Int))}{j g:Nat}{f:Nat->Int}(h:qD1 w n l L)(hg:qAf w g 3 (qBa n f)):qD1 w n (l++[(j,g)]) (L++[(j,f)]):=by
 have hl:=h.1;refine⟨by simp[hl],fun q h1 h2=> ?_⟩;simp only[List.length_append,List.length_singleton]at h1 h2;by_cases e:q<l.length
 ·rw[List.getElem_append_left e,List.getElem_append_left (by omega)]
  exact h.2 q e (by omega)
 ·rw[List.getElem_append_right (by omega),List.getElem_append_right (by omega)]
  simpa using hg
theorem qD1.only{w w':World}{base n m:Nat}{v:Value}{us:List Value}{l:List (Nat×Nat)}{L:List (Nat×(Nat->Int))}(h:qD1 w n l L)(hv:w.ownsRow base 86 2 v m us)(ho:qAc (fun b=>v.ownBlock=some b) w w'):qD1 w' n l L:=by
 refine⟨h.1,fun q h1 h2=>⟨(h.2 q h1 h2).1,?_⟩⟩;have hb:=(h.2 q h1 h2).2;refine(ho.block _ hb.lt (fun e=> ?_)).trans hb;rcases hv.2 with ⟨hv',_⟩|⟨g,cap,cur,hv',_,hh,_⟩
 ·rw[hv']at e;cases e
 ·rw[hv']at e
  simp only[Value.ownBlock,Option.some.injEq]at e;subst e;unfold qAf at hb;rw[hb]at hh;injection hh with hh;injection hh with _ hh _;exact absurd hh (by decide)
theorem qNK:qEv Tryz.prog 83 86 2 32:=qEv.mk (z:=.agg #[.int .i64 0,.slice none 0 0]) Tryz.underlying83 (by kernel_rfl) rfl (by decide)
def qKm(w:World)(n:Nat)(v:Value)(L:List (Nat×(Nat->Int))):Prop:=qAb 2 (fun W x cs=>∃g,cs=qOh n (x.1,g)/\qAf W g 3 (qBa n x.2)) w v L
theorem qD1.at_{w:World}{base n m:Nat}{v:Value}{l:List (Nat×Nat)}{L:List (Nat×(Nat->Int))}(h:qD1 w n l L)(hv:w.ownsRow base 86 2 v m (l.flatMap (qOh n)))(hm:m=l.length):qKm w n v L:=by
 subst hm;refine qAb.of_own (css:=l.map (qOh n)) (base:=base) (e:=86) (by rw[List.length_map];rw[List.flatMap_def]at hv;exact hv) (fun cs hc=>by obtain⟨x,_,rfl⟩:=List.mem_map.1 hc;rfl) (by rw[List.length_map];exact h.1) (fun j h1 h2=> ?_);rw[List.length_map]at h2;obtain⟨k1,k2⟩:=h.2 j h2 h1;exact⟨l[j].2,by rw[List.getElem_map,<-k1],k2⟩
theorem qAf.onlyT{w w':World}{base m k g:Nat}{t e:TypeId}{v:Value}{us cs:List Value}(hb:qAf w g t cs)(hv:w.ownsRow base e k v m us)(ht:t≠e)(ho:qAc (fun b=>v.ownBlock=some b) w w'):qAf w' g t cs:=by
 refine(ho.block _ hb.lt (fun e9=> ?_)).trans hb;rcases hv.2 with ⟨hv',_⟩|⟨g',cap,cur,hv',_,hh,_⟩
 ·rw[hv']at e9;cases e9
 ·rw[hv']at e9
  simp only[Value.ownBlock,Option.some.injEq]at e9;subst e9;unfold qAf at hb;rw[hb]at hh;injection hh with hh;injection hh with _ hh _;exact ht hh
def qC7(v:List Int)(m:List (List Int)):List Int:=(List.range (qBY m)).map (fun k=>qGv v m m.length k)
theorem qEA(v:List Int)(m:List (List Int)):(qC7 v m).length=qBY m:=by simp[qC7]
end Go.Proofs.YtkjhlkngihponaaGreatDoor
