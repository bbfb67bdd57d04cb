/- The reference's reader: a row of a loot table. -/
import Derived.Test.YtpmnbcdjoomgcaaGreatDoorQPQOpts
import Derived.Test.YtpmnbcdjoomgcaaGreatDoorQPPText
set_option linter.unusedVariables false
set_option linter.unusedSimpArgs false
set_option maxHeartbeats 4000000
set_option maxRecDepth 100000
namespace Go.Proofs.YtpmnbcdjoomgcaaGreatDoor
open Go.RowKit
theorem qIa(b bd:Nat)(s:ByteArray)(T z:List Tok)(bad:Bool)(d:Dc)(v:Value)(seen:List Bs)(w:World)(hw:WfL T)(h:QE w b bd s T z bad d)(hv:qB2 w v seen)(hl:seen.length<=1000000):
 Calls Tryz.prog 87 #[.pointer (some ⟨b,0,none⟩),.pointer (some ⟨bd,0,none⟩),v] w (qKd qCs b bd s T seen bad z d w):=by
 have HN:Hid (QN w w b bd s T z bad d v seen):=hZ ⟨h,hv,qAf.refl _ _⟩;have HI:Hid (QI [] seen bad z bad):=hZ QI.nil;have HW:=hZ hw;obtain⟨c0,hc0⟩:=eX bad;have HI0:Hid (QI [] seen bad z c0):=hZ (hc0▸HI.o);have HN0:Hid (QN w w b bd s T z c0 d v seen):=hZ (hc0▸HN.o);obtain⟨a,cap,rfl,hc1,hc2⟩:=TSl.form hv;clear h hv hw hc0 HN HI
 go_enter Tryz.func87,Tryz.ntmps87
 go_wp2_with fail
 by_cases h1:onB seen c0 qAx z=true
 ·have HC:=hZ (qBc b s T z c0 qAx _ seen w h1 HN0.o.e.q HN0.o.s hl)
  have Hon:=hZ (HI0.o.yes h1);clear h1 HI0;refine HC.o.mono ?_;rintro e w7 ⟨rfl,hq⟩;have HN7:=hZ (HN0.o.step hq);clear hq HN0 HC;obtain⟨y,hd,hy⟩:=HN7.o.e.d;have hc:w7.cell? ⟨bd,3,none⟩=some (.bool d.object):=hd.cell 3;have hf:=hd.frozen 3;have HP:=hZ (QE.put (d':={ d with object:=true }) (y':=y) HN7.o.e.q hd 3 (.bool true) rfl (hy.same rfl rfl rfl rfl rfl));clear hd hy
  go_wp2_with fail
  go_ret;exact⟨qBo HN7.o.o 3 _,.inl ⟨.object,by decide,Hon.o,rfl,some { d with object:=true },z.drop 1,false,{ d with object:=true },QR.ok rfl,(fun x h=>by injection h),HP.o⟩⟩
 have HC:=hZ (qBE b s T z c0 qAx _ seen w (by simpa using h1) HN0.o.e.q HN0.o.s hl);have HI1:Hid (QI [qAx] seen bad z (c0||isX qAx z)):=hZ (HI0.o.step (by decide) (by simpa using h1));clear h1 HI0;refine HC.o.mono ?_;rintro e x1 ⟨rfl,hq⟩;have HN1:=hZ (HN0.o.step hq);clear hq HN0 HC;obtain⟨c1,hc⟩:=eX ((c0||isX qAx z));rw[hc]at HN1 HI1;clear hc
 go_wp2_with fail
 by_cases h1:onB seen c1 qAR z=true
 ·have HC:=hZ (qBc b s T z c1 qAR _ seen x1 h1 HN1.o.e.q HN1.o.s hl)
  have Hon:=hZ (HI1.o.yes h1);clear h1 HI1;refine HC.o.mono ?_;rintro e w7 ⟨rfl,hq⟩;have HN7:=hZ (HN1.o.step hq);clear hq HN1 HC;obtain⟨y,hd,hy⟩:=HN7.o.e.d;have hc:w7.cell? ⟨bd,4,none⟩=some (.bool d.mixed):=hd.cell 4;have hf:=hd.frozen 4;have HP:=hZ (QE.put (d':={ d with mixed:=true }) (y':=y) HN7.o.e.q hd 4 (.bool true) rfl (hy.same rfl rfl rfl rfl rfl));clear hd hy
  go_wp2_with fail
  go_ret;exact⟨qBo HN7.o.o 4 _,.inl ⟨.mixed,by decide,Hon.o,rfl,some { d with mixed:=true },z.drop 1,false,{ d with mixed:=true },QR.ok rfl,(fun x h=>by injection h),HP.o⟩⟩
 have HC:=hZ (qBE b s T z c1 qAR _ seen x1 (by simpa using h1) HN1.o.e.q HN1.o.s hl);have HI2:Hid (QI [qAx,qAR] seen bad z (c1||isX qAR z)):=hZ (HI1.o.step (by decide) (by simpa using h1));clear h1 HI1;refine HC.o.mono ?_;rintro e x2 ⟨rfl,hq⟩;have HN2:=hZ (HN1.o.step hq);clear hq HN1 HC;obtain⟨c2,hc⟩:=eX ((c1||isX qAR z));rw[hc]at HN2 HI2;clear hc
 go_wp2_with fail
 by_cases h1:onB seen c2 qBt z=true
 ·have HC:=hZ (qBc b s T z c2 qBt _ seen x2 h1 HN2.o.e.q HN2.o.s hl)
  have Hon:=hZ (HI2.o.yes h1);clear h1 HI2;refine HC.o.mono ?_;rintro e w7 ⟨rfl,hq⟩;have HN7:=hZ (HN2.o.step hq);clear hq HN2 HC;obtain⟨y,hd,hy⟩:=HN7.o.e.d;have hc:w7.cell? ⟨bd,5,none⟩=some (.bool d.coin):=hd.cell 5;have hf:=hd.frozen 5;have HP:=hZ (QE.put (d':={ d with coin:=true }) (y':=y) HN7.o.e.q hd 5 (.bool true) rfl (hy.same rfl rfl rfl rfl rfl));clear hd hy
  go_wp2_with fail
  go_ret;exact⟨qBo HN7.o.o 5 _,.inl ⟨.coin,by decide,Hon.o,rfl,some { d with coin:=true },z.drop 1,false,{ d with coin:=true },QR.ok rfl,(fun x h=>by injection h),HP.o⟩⟩
 have HC:=hZ (qBE b s T z c2 qBt _ seen x2 (by simpa using h1) HN2.o.e.q HN2.o.s hl);have HI3:Hid (QI [qAx,qAR,qBt] seen bad z (c2||isX qBt z)):=hZ (HI2.o.step (by decide) (by simpa using h1));clear h1 HI2;refine HC.o.mono ?_;rintro e x3 ⟨rfl,hq⟩;have HN3:=hZ (HN2.o.step hq);clear hq HN2 HC;obtain⟨c3,hc⟩:=eX ((c2||isX qBt z));rw[hc]at HN3 HI3;clear hc
 go_wp2_with fail
 by_cases h1:onB seen c3 qBY z=true
 ·have HC:=hZ (qBc b s T z c3 qBY _ seen x3 h1 HN3.o.e.q HN3.o.s hl)
  have Hon:=hZ (HI3.o.yes h1);clear h1 HI3;refine HC.o.mono ?_;rintro e w7 ⟨rfl,hq⟩;have HN7:=hZ (HN3.o.step hq);clear hq HN3 HC;have HC:=hZ (qAQ b s T (z.drop 1) false w7 HN7.o.e.q)
  go_wp2_with fail
  refine HC.o.mono ?_;rintro e w8 ⟨u8,z8,bd8,rfl,hq8,hr8⟩;have HQ8:=hZ hq8;have HN8:=hZ (HN7.o.step hr8);clear hq8 hr8 HN7 HC;unfold qHA;obtain⟨n8,hn8⟩:=eX (u8.getD 0);rw[hn8];have Hn8:=hZ hn8;clear hn8;obtain⟨y,hd,hy⟩:=HN8.o.e.d;have hc:w8.cell? ⟨bd,6,none⟩=some (.int .i64 d.wear):=hd.cell 6;have hf:=hd.frozen 6;have HP:=hZ (QE.put (d':={ d with wear:=n8 }) (y':=y) HN8.o.e.q hd 6 (.int .i64 n8) rfl (hy.same rfl rfl rfl rfl rfl));clear hd hy
  go_wp2_with fail
  go_ret;refine⟨qBo HN8.o.o 6 _,.inl ⟨.wear,by decide,Hon.o,rfl,u8.map (fun n=>{ d with wear:=n }),z8,bd8,{ d with wear:=n8 },QR.map _ (fun l=>by unfold pFg;simp only[];cases qAP l<;>rfl) HQ8.o,(fun x hx=> ?_),HP.o⟩⟩;have h9:=Hn8.o;cases u8 with
  |none=>cases hx
  |some n=>injection hx with hx;rw[<-hx,<-h9];rfl
 have HC:=hZ (qBE b s T z c3 qBY _ seen x3 (by simpa using h1) HN3.o.e.q HN3.o.s hl);have HI4:Hid (QI [qAx,qAR,qBt,qBY] seen bad z (c3||isX qBY z)):=hZ (HI3.o.step (by decide) (by simpa using h1));clear h1 HI3;refine HC.o.mono ?_;rintro e x4 ⟨rfl,hq⟩;have HN4:=hZ (HN3.o.step hq);clear hq HN3 HC;obtain⟨c4,hc⟩:=eX ((c3||isX qBY z));rw[hc]at HN4 HI4;clear hc
 go_wp2_with fail
 by_cases h1:onB seen c4 qAo z=true
 ·have HC:=hZ (qBc b s T z c4 qAo _ seen x4 h1 HN4.o.e.q HN4.o.s hl)
  have Hon:=hZ (HI4.o.yes h1);clear h1 HI4;refine HC.o.mono ?_;rintro e w7 ⟨rfl,hq⟩;have HN7:=hZ (HN4.o.step hq);clear hq HN4 HC;have HC:=hZ (qAQ b s T (z.drop 1) false w7 HN7.o.e.q)
  go_wp2_with fail
  refine HC.o.mono ?_;rintro e w8 ⟨u8,z8,bd8,rfl,hq8,hr8⟩;have HQ8:=hZ hq8;have HN8:=hZ (HN7.o.step hr8);clear hq8 hr8 HN7 HC;unfold qHA;obtain⟨n8,hn8⟩:=eX (u8.getD 0);rw[hn8];have Hn8:=hZ hn8;clear hn8;obtain⟨y,hd,hy⟩:=HN8.o.e.d;have hc:w8.cell? ⟨bd,8,none⟩=some (.int .i64 d.level):=hd.cell 8;have hf:=hd.frozen 8;have HP:=hZ (QE.put (d':={ d with level:=n8 }) (y':=y) HN8.o.e.q hd 8 (.int .i64 n8) rfl (hy.same rfl rfl rfl rfl rfl));clear hd hy
  go_wp2_with fail
  go_ret;refine⟨qBo HN8.o.o 8 _,.inl ⟨.level,by decide,Hon.o,rfl,u8.map (fun n=>{ d with level:=n }),z8,bd8,{ d with level:=n8 },QR.map _ (fun l=>by unfold pFg;simp only[];cases qAP l<;>rfl) HQ8.o,(fun x hx=> ?_),HP.o⟩⟩;have h9:=Hn8.o;cases u8 with
  |none=>cases hx
  |some n=>injection hx with hx;rw[<-hx,<-h9];rfl
 have HC:=hZ (qBE b s T z c4 qAo _ seen x4 (by simpa using h1) HN4.o.e.q HN4.o.s hl);have HI5:Hid (QI [qAx,qAR,qBt,qBY,qAo] seen bad z (c4||isX qAo z)):=hZ (HI4.o.step (by decide) (by simpa using h1));clear h1 HI4;refine HC.o.mono ?_;rintro e x5 ⟨rfl,hq⟩;have HN5:=hZ (HN4.o.step hq);clear hq HN4 HC;obtain⟨c5,hc⟩:=eX ((c4||isX qAo z));rw[hc]at HN5 HI5;clear hc
 go_wp2_with fail
 by_cases h1:onB seen c5 qDj z=true
 ·have HC:=hZ (qBc b s T z c5 qDj _ seen x5 h1 HN5.o.e.q HN5.o.s hl)
  have Hon:=hZ (HI5.o.yes h1);clear h1 HI5;refine HC.o.mono ?_;rintro e w7 ⟨rfl,hq⟩;have HN7:=hZ (HN5.o.step hq);clear hq HN5 HC;obtain⟨y,hd,hy⟩:=HN7.o.e.d;have hc:w7.cell? ⟨bd,7,none⟩=some (.int .i64 d.bind):=hd.cell 7;have hf:=hd.frozen 7;have HP:=hZ (QE.put (d':={ d with bind:=1 }) (y':=y) HN7.o.e.q hd 7 (.int .i64 1) rfl (hy.same rfl rfl rfl rfl rfl));clear hd hy;have HO8:=hZ (qBo HN7.o.o 7 (.int .i64 1));obtain⟨w8,hw8⟩:=eX (w7.setCell ⟨bd,7,none⟩ (.int .i64 1));rw[hw8]at HP HO8;obtain⟨z1,hz1⟩:=eX (z.drop 1);rw[hz1]at HP;have HC8:=hZ (qC8 b s T z1 false qGM w8 HP.o.q);have Hz1:=hZ hz1;have Hsu:=hZ (HP.o.q.word HW.o (x:=qGM) (by decide));have Hsg:=hZ (HP.o.q.word HW.o (x:=qHP) (by decide));clear hz1
  go_wp2_with fail
  clear hc hf hw8;refine HC8.o.mono ?_;rintro e w9 ⟨rfl,hB9⟩;have HP9:=hZ (HP.o.ok ⟨HP.o.q.below hB9,qAf.of_below hB9⟩);have HO9:=hZ (HO8.o.trans (qAf.of_below hB9));clear hB9 HP HO8 HC8 HN7;by_cases hu:isX qGM z1=true
  ·rw[hu]
   have Hu:=hZ hu;clear hu;obtain⟨y2,hd2,hy2⟩:=HP9.o.d;have hc:w9.cell? ⟨bd,7,none⟩=some (.int .i64 1):=hd2.cell 7;have hf:=hd2.frozen 7;have HP10:=hZ (QE.put (d':={ d with bind:=2 }) (y':=y2) HP9.o.q hd2 7 (.int .i64 2) rfl (hy2.same rfl rfl rfl rfl rfl));have HO10:=hZ (qBo HO9.o 7 (.int .i64 2));obtain⟨w10,hw10⟩:=eX (w9.setCell ⟨bd,7,none⟩ (.int .i64 2));rw[hw10]at HP10 HO10;have HC10:=hZ (qAX b s T z1 false qGM w10 HP10.o.q);clear hd2 hy2 HP9 HO9
   go_wp2_with fail
   clear hc hf hw10;refine HC10.o.mono ?_;rintro e w11 ⟨u11,z11,bd11,rfl,hq11,hr11⟩;have HX11:Hid (bd11=false/\z11=z1.drop 1):=hZ (by
    unfold QR at hq11;rw[qEJ,Hu.o]at hq11;simp at hq11;exact⟨hq11.2.1,by rw[hq11.2.2];simp⟩)
   have HP11:=hZ (HP10.o.ok hr11);have HO11:=hZ (HO10.o.trans (hr11.two bd));clear hq11 hr11 HP10 HO10 HC10
   go_wp2_with fail
   go_ret;obtain⟨rfl,rfl⟩:=HX11.o;refine⟨HO11.o,.inl ⟨.bind,by decide,Hon.o,rfl,some { d with bind:=2 },z1.drop 1,false,{ d with bind:=2 },?_,(fun x h=>by injection h),HP11.o⟩⟩;rw[Hz1.o];refine QR.ok ?_;unfold pFg;simp only[];rw[<-Hsu.o,Hu.o];rfl
  ·rw[Bool.not_eq_true]at hu
   rw[hu];have Hu:=hZ hu;clear hu;have HC10:=hZ (qAX b s T z1 false qHP w9 HP9.o.q)
   go_wp2_with fail
   refine HC10.o.mono ?_;rintro e w11 ⟨u11,z11,bd11,rfl,hq11,hr11⟩;have HQ11:=hZ hq11;have HP11:=hZ (HP9.o.ok hr11);have HO11:=hZ (HO9.o.trans (hr11.two bd));clear hq11 hr11 HP9 HO9 HC10
   go_wp2_with fail
   go_ret;have h9:=HQ11.o;unfold QR at h9;rw[qEJ,Hsg.o]at h9;simp only[Bool.false_eq_true,if_false]at h9;have h8:isT 0 qGM z1=false:=by rw[<-Hsu.o];exact Hu.o
   cases hg:isT 0 qHP z1 with
   |true=>
    rw[hg]at h9;obtain⟨rfl,rfl,rfl⟩:=h9;refine⟨HO11.o,.inl ⟨.bind,by decide,Hon.o,rfl,some { d with bind:=1 },z1.drop 1,false,{ d with bind:=1 },?_,(fun x h=>by injection h),HP11.o⟩⟩;rw[Hz1.o];refine QR.ok ?_;unfold pFg;simp only[];rw[h8,hg];rfl
   |false=>
    rw[hg]at h9;obtain⟨rfl,rfl,rfl⟩:=h9;refine⟨HO11.o,.inl ⟨.bind,by decide,Hon.o,rfl,none,z11,true,{ d with bind:=1 },?_,nofun,HP11.o⟩⟩;rw[Hz1.o];refine QR.err ?_;unfold pFg;simp only[];rw[h8,hg];rfl
 have HC:=hZ (qBE b s T z c5 qDj _ seen x5 (by simpa using h1) HN5.o.e.q HN5.o.s hl);have HI6:Hid (QI [qAx,qAR,qBt,qBY,qAo,qDj] seen bad z (c5||isX qDj z)):=hZ (HI5.o.step (by decide) (by simpa using h1));clear h1 HI5;refine HC.o.mono ?_;rintro e x6 ⟨rfl,hq⟩;have HN6:=hZ (HN5.o.step hq);clear hq HN5 HC;obtain⟨c6,hc⟩:=eX ((c5||isX qDj z));rw[hc]at HN6 HI6;clear hc
 go_wp2_with fail
 go_ret;obtain⟨h8,h9⟩:=HI6.o;refine⟨HN6.o.o,.inr ⟨fun f hf=>h9 _ (by revert f;decide),rfl,?_⟩⟩;have:=HN6.o.e;rw[h8]at this;simpa[qCs,Fg.word,Bool.or_comm,Bool.or_left_comm,Bool.or_assoc]using this
theorem qH8(b bd:Nat)(s:ByteArray)(T z:List Tok)(bad:Bool)(d:Dc)(v:Value)(seen:List Bs)(w:World)(hw:WfL T)(h:QE w b bd s T z bad d)(hv:qB2 w v seen)(hl:seen.length<=1000000):
 Calls Tryz.prog 88 #[.pointer (some ⟨b,0,none⟩),.pointer (some ⟨bd,0,none⟩),v] w (qKd qBT b bd s T seen bad z d w):=by
 have HN:Hid (QN w w b bd s T z bad d v seen):=hZ ⟨h,hv,qAf.refl _ _⟩;have HI:Hid (QI [] seen bad z bad):=hZ QI.nil;have HW:=hZ hw;obtain⟨c0,hc0⟩:=eX bad;have HI0:Hid (QI [] seen bad z c0):=hZ (hc0▸HI.o);have HN0:Hid (QN w w b bd s T z c0 d v seen):=hZ (hc0▸HN.o);obtain⟨a,cap,rfl,hc1,hc2⟩:=TSl.form hv;clear h hv hw hc0 HN HI
 go_enter Tryz.func88,Tryz.ntmps88
 go_wp2_with fail
 by_cases h1:onB seen c0 qAo z=true
 ·have HC:=hZ (qBc b s T z c0 qAo _ seen w h1 HN0.o.e.q HN0.o.s hl)
  have Hon:=hZ (HI0.o.yes h1);clear h1 HI0;refine HC.o.mono ?_;rintro e w7 ⟨rfl,hq⟩;have HN7:=hZ (HN0.o.step hq);clear hq HN0 HC;have HC:=hZ (qAQ b s T (z.drop 1) false w7 HN7.o.e.q)
  go_wp2_with fail
  refine HC.o.mono ?_;rintro e w8 ⟨u8,z8,bd8,rfl,hq8,hr8⟩;have HQ8:=hZ hq8;have HN8:=hZ (HN7.o.step hr8);clear hq8 hr8 HN7 HC;unfold qHA;obtain⟨n8,hn8⟩:=eX (u8.getD 0);rw[hn8];have Hn8:=hZ hn8;clear hn8;obtain⟨y,hd,hy⟩:=HN8.o.e.d;have hc:w8.cell? ⟨bd,8,none⟩=some (.int .i64 d.level):=hd.cell 8;have hf:=hd.frozen 8;have HP:=hZ (QE.put (d':={ d with level:=n8 }) (y':=y) HN8.o.e.q hd 8 (.int .i64 n8) rfl (hy.same rfl rfl rfl rfl rfl));clear hd hy
  go_wp2_with fail
  go_ret;refine⟨qBo HN8.o.o 8 _,.inl ⟨.level,by decide,Hon.o,rfl,u8.map (fun n=>{ d with level:=n }),z8,bd8,{ d with level:=n8 },QR.map _ (fun l=>by unfold pFg;simp only[];cases qAP l<;>rfl) HQ8.o,(fun x hx=> ?_),HP.o⟩⟩;have h9:=Hn8.o;cases u8 with
  |none=>cases hx
  |some n=>injection hx with hx;rw[<-hx,<-h9];rfl
 have HC:=hZ (qBE b s T z c0 qAo _ seen w (by simpa using h1) HN0.o.e.q HN0.o.s hl);have HI1:Hid (QI [qAo] seen bad z (c0||isX qAo z)):=hZ (HI0.o.step (by decide) (by simpa using h1));clear h1 HI0;refine HC.o.mono ?_;rintro e x1 ⟨rfl,hq⟩;have HN1:=hZ (HN0.o.step hq);clear hq HN0 HC;obtain⟨c1,hc⟩:=eX ((c0||isX qAo z));rw[hc]at HN1 HI1;clear hc
 go_wp2_with fail
 by_cases h1:onB seen c1 qBG z=true
 ·have HC:=hZ (qBc b s T z c1 qBG _ seen x1 h1 HN1.o.e.q HN1.o.s hl)
  have Hon:=hZ (HI1.o.yes h1);clear h1 HI1;refine HC.o.mono ?_;rintro e w7 ⟨rfl,hq⟩;have HN7:=hZ (HN1.o.step hq);clear hq HN1 HC;have HC:=hZ (qAQ b s T (z.drop 1) false w7 HN7.o.e.q)
  go_wp2_with fail
  refine HC.o.mono ?_;rintro e w8 ⟨u8,z8,bd8,rfl,hq8,hr8⟩;have HQ8:=hZ hq8;have HN8:=hZ (HN7.o.step hr8);clear hq8 hr8 HN7 HC;unfold qHA;obtain⟨n8,hn8⟩:=eX (u8.getD 0);rw[hn8];have Hn8:=hZ hn8;clear hn8;obtain⟨y,hd,hy⟩:=HN8.o.e.d;have hc:w8.cell? ⟨bd,9,none⟩=some (.int .i64 d.time):=hd.cell 9;have hf:=hd.frozen 9;have HP:=hZ (QE.put (d':={ d with time:=n8 }) (y':=y) HN8.o.e.q hd 9 (.int .i64 n8) rfl (hy.same rfl rfl rfl rfl rfl));clear hd hy
  go_wp2_with fail
  go_ret;refine⟨qBo HN8.o.o 9 _,.inl ⟨.time,by decide,Hon.o,rfl,u8.map (fun n=>{ d with time:=n }),z8,bd8,{ d with time:=n8 },QR.map _ (fun l=>by unfold pFg;simp only[];cases qAP l<;>rfl) HQ8.o,(fun x hx=> ?_),HP.o⟩⟩;have h9:=Hn8.o;cases u8 with
  |none=>cases hx
  |some n=>injection hx with hx;rw[<-hx,<-h9];rfl
 have HC:=hZ (qBE b s T z c1 qBG _ seen x1 (by simpa using h1) HN1.o.e.q HN1.o.s hl);have HI2:Hid (QI [qAo,qBG] seen bad z (c1||isX qBG z)):=hZ (HI1.o.step (by decide) (by simpa using h1));clear h1 HI1;refine HC.o.mono ?_;rintro e x2 ⟨rfl,hq⟩;have HN2:=hZ (HN1.o.step hq);clear hq HN1 HC;obtain⟨c2,hc⟩:=eX ((c1||isX qBG z));rw[hc]at HN2 HI2;clear hc
 go_wp2_with fail
 by_cases h1:onB seen c2 qAy z=true
 ·have HC:=hZ (qBc b s T z c2 qAy _ seen x2 h1 HN2.o.e.q HN2.o.s hl)
  have Hon:=hZ (HI2.o.yes h1);clear h1 HI2;refine HC.o.mono ?_;rintro e w7 ⟨rfl,hq⟩;have HN7:=hZ (HN2.o.step hq);clear hq HN2 HC;have HC:=hZ (qAQ b s T (z.drop 1) false w7 HN7.o.e.q)
  go_wp2_with fail
  refine HC.o.mono ?_;rintro e w8 ⟨u8,z8,bd8,rfl,hq8,hr8⟩;have HQ8:=hZ hq8;have HN8:=hZ (HN7.o.step hr8);clear hq8 hr8 HN7 HC;unfold qHA;obtain⟨n8,hn8⟩:=eX (u8.getD 0);rw[hn8];have Hn8:=hZ hn8;clear hn8;obtain⟨y,hd,hy⟩:=HN8.o.e.d;have hc:w8.cell? ⟨bd,10,none⟩=some (.int .i64 d.chance):=hd.cell 10;have hf:=hd.frozen 10;have HP:=hZ (QE.put (d':={ d with chance:=n8 }) (y':=y) HN8.o.e.q hd 10 (.int .i64 n8) rfl (hy.same rfl rfl rfl rfl rfl));clear hd hy;have HO9:=hZ (qBo HN8.o.o 10 (.int .i64 n8));obtain⟨w9,hw9⟩:=eX (w8.setCell ⟨bd,10,none⟩ (.int .i64 n8));rw[hw9]at HP HO9;have HC9:=hZ (qAX b s T z8 bd8 wOf w9 HP.o.q);have Hso:=hZ (HP.o.q.word HW.o (x:=wOf) (by decide));clear HN8
  go_wp2_with fail
  clear hc hf hw9;refine HC9.o.mono ?_;rintro e w10 ⟨u10,z10,bd10,rfl,hq10,hr10⟩;have HQ10:=hZ (QR.tok (k:=0) (by decide) Hso.o hq10);have HP10:=hZ (HP.o.ok hr10);have HO10:=hZ (HO9.o.trans (hr10.two bd));have HC10:=hZ (qAQ b s T z10 bd10 w10 HP10.o.q);clear hq10 hr10 HP HO9 HC9
  go_wp2_with fail
  refine HC10.o.mono ?_;rintro e w11 ⟨u11,z11,bd11,rfl,hq11,hr11⟩;have HQ11:=hZ hq11;have HP11:=hZ (HP10.o.ok hr11);have HO11:=hZ (HO10.o.trans (hr11.two bd));clear hq11 hr11 HP10 HO10 HC10;unfold qHA;obtain⟨n11,hn11⟩:=eX (u11.getD 0);rw[hn11];have Hn11:=hZ hn11;clear hn11;obtain⟨y,hd,hy⟩:=HP11.o.d;have hc:w11.cell? ⟨bd,11,none⟩=some (.int .i64 d.of_):=hd.cell 11;have hf:=hd.frozen 11;have HP12:=hZ (QE.put (d':={ d with chance:=n8,of_:=n11 }) (y':=y) HP11.o.q hd 11 (.int .i64 n11) rfl (hy.same rfl rfl rfl rfl rfl));clear hd hy
  go_wp2_with fail
  go_ret;obtain⟨u9,h9,h10⟩:=HQ10.o;refine⟨qBo HO11.o 11 _,.inl ⟨.chance,by decide,Hon.o,rfl,_,z11,bd11,{ d with chance:=n8,of_:=n11 },QR.seq (fun n m=>{ d with chance:=n,of_:=m }) (q:=fun l=>match qAL 0 wOf l with|.error r=> .error r|.ok (_,r)=>match qAP r with|.error r2=> .error r2|.ok (m,r2)=> .ok (m,r2)) (fun l=> ?_) HQ8.o (QR.seq (fun _ m=>m) (fun l=>by
   cases qAL 0 wOf l with
   |error r=>rfl
   |ok a=>simp only[];cases qAP a.2<;>rfl) h10 HQ11.o),(fun x hx=> ?_),HP12.o⟩⟩
  ·unfold pFg
   simp only[];cases qAP l with
   |error r=>rfl
   |ok a=>
    simp only[];cases qAL 0 wOf a.2 with
    |error r=>rfl
    |ok c=>
     simp only[];cases qAP c.2 with
     |error r=>rfl
     |ok e=>rfl
  ·have h8:=Hn8.o
   have h11:=Hn11.o;cases u8 with
   |none=>cases hx
   |some n=>
    cases u9 with
    |none=>cases hx
    |some t=>
     cases u11 with
     |none=>cases hx
     |some m=>injection hx with hx;rw[<-hx,<-h8,<-h11];rfl
 have HC:=hZ (qBE b s T z c2 qAy _ seen x2 (by simpa using h1) HN2.o.e.q HN2.o.s hl);have HI3:Hid (QI [qAo,qBG,qAy] seen bad z (c2||isX qAy z)):=hZ (HI2.o.step (by decide) (by simpa using h1));clear h1 HI2;refine HC.o.mono ?_;rintro e x3 ⟨rfl,hq⟩;have HN3:=hZ (HN2.o.step hq);clear hq HN2 HC;obtain⟨c3,hc⟩:=eX ((c2||isX qAy z));rw[hc]at HN3 HI3;clear hc
 go_wp2_with fail
 by_cases h1:onB seen c3 qBZ z=true
 ·have HC:=hZ (qBc b s T z c3 qBZ _ seen x3 h1 HN3.o.e.q HN3.o.s hl)
  have Hon:=hZ (HI3.o.yes h1);clear h1 HI3;refine HC.o.mono ?_;rintro e w7 ⟨rfl,hq⟩;have HN7:=hZ (HN3.o.step hq);clear hq HN3 HC;have HC:=hZ (qCy b s T (z.drop 1) false w7 HW.o HN7.o.e.q)
  go_wp2_with fail
  refine HC.o.mono ?_;rintro e w8 ⟨u8,z8,bd8,⟨v8,rfl,g8,hp8,hg8,-⟩,hq8,hr8⟩;obtain⟨a8,cp8,rfl, -,-⟩:=TSl.form hp8;have HQ8:=hZ hq8;have HV8:=hZ hp8;have HG8:=hZ hg8;have HN8:=hZ (HN7.o.step hr8);clear hq8 hr8 hp8 hg8 HN7 HC;obtain⟨y,hd,hy⟩:=HN8.o.e.d;have hc:w8.cell? ⟨bd,12,none⟩=some (y.t):=hd.cell 12;have hf:=hd.frozen 12;have HP:=hZ (QE.put (d':={ d with take:=g8 }) (y':={ y with t:=.slice a8 g8.length cp8 }) HN8.o.e.q hd 12 (.slice a8 g8.length cp8) rfl (⟨HV8.o,hy.g,hy.b,hy.r,hy.x⟩));clear hd hy
  go_wp2_with fail
  go_ret;refine⟨qBo HN8.o.o 12 _,.inl ⟨.take,by decide,Hon.o,rfl,u8.map (fun n=>{ d with take:=n }),z8,bd8,{ d with take:=g8 },QR.map _ (fun l=>by unfold pFg;simp only[];cases qAw l<;>rfl) HQ8.o,(fun x hx=> ?_),HP.o⟩⟩;have h9:=HG8.o;cases u8 with
  |none=>cases hx
  |some n=>injection hx with hx;rw[<-hx,h9 n rfl]
 have HC:=hZ (qBE b s T z c3 qBZ _ seen x3 (by simpa using h1) HN3.o.e.q HN3.o.s hl);have HI4:Hid (QI [qAo,qBG,qAy,qBZ] seen bad z (c3||isX qBZ z)):=hZ (HI3.o.step (by decide) (by simpa using h1));clear h1 HI3;refine HC.o.mono ?_;rintro e x4 ⟨rfl,hq⟩;have HN4:=hZ (HN3.o.step hq);clear hq HN3 HC;obtain⟨c4,hc⟩:=eX ((c3||isX qBZ z));rw[hc]at HN4 HI4;clear hc
 go_wp2_with fail
 by_cases h1:onB seen c4 qB4 z=true
 ·have HC:=hZ (qBc b s T z c4 qB4 _ seen x4 h1 HN4.o.e.q HN4.o.s hl)
  have Hon:=hZ (HI4.o.yes h1);clear h1 HI4;refine HC.o.mono ?_;rintro e w7 ⟨rfl,hq⟩;have HN7:=hZ (HN4.o.step hq);clear hq HN4 HC;have HC:=hZ (qCy b s T (z.drop 1) false w7 HW.o HN7.o.e.q)
  go_wp2_with fail
  refine HC.o.mono ?_;rintro e w8 ⟨u8,z8,bd8,⟨v8,rfl,g8,hp8,hg8,-⟩,hq8,hr8⟩;obtain⟨a8,cp8,rfl, -,-⟩:=TSl.form hp8;have HQ8:=hZ hq8;have HV8:=hZ hp8;have HG8:=hZ hg8;have HN8:=hZ (HN7.o.step hr8);clear hq8 hr8 hp8 hg8 HN7 HC;obtain⟨y,hd,hy⟩:=HN8.o.e.d;have hc:w8.cell? ⟨bd,13,none⟩=some (y.g):=hd.cell 13;have hf:=hd.frozen 13;have HP:=hZ (QE.put (d':={ d with give:=g8 }) (y':={ y with g:=.slice a8 g8.length cp8 }) HN8.o.e.q hd 13 (.slice a8 g8.length cp8) rfl (⟨hy.t,HV8.o,hy.b,hy.r,hy.x⟩));clear hd hy
  go_wp2_with fail
  go_ret;refine⟨qBo HN8.o.o 13 _,.inl ⟨.give,by decide,Hon.o,rfl,u8.map (fun n=>{ d with give:=n }),z8,bd8,{ d with give:=g8 },QR.map _ (fun l=>by unfold pFg;simp only[];cases qAw l<;>rfl) HQ8.o,(fun x hx=> ?_),HP.o⟩⟩;have h9:=HG8.o;cases u8 with
  |none=>cases hx
  |some n=>injection hx with hx;rw[<-hx,h9 n rfl]
 have HC:=hZ (qBE b s T z c4 qB4 _ seen x4 (by simpa using h1) HN4.o.e.q HN4.o.s hl);have HI5:Hid (QI [qAo,qBG,qAy,qBZ,qB4] seen bad z (c4||isX qB4 z)):=hZ (HI4.o.step (by decide) (by simpa using h1));clear h1 HI4;refine HC.o.mono ?_;rintro e x5 ⟨rfl,hq⟩;have HN5:=hZ (HN4.o.step hq);clear hq HN4 HC;obtain⟨c5,hc⟩:=eX ((c4||isX qB4 z));rw[hc]at HN5 HI5;clear hc
 go_wp2_with fail
 by_cases h1:onB seen c5 qCb z=true
 ·have HC:=hZ (qBc b s T z c5 qCb _ seen x5 h1 HN5.o.e.q HN5.o.s hl)
  have Hon:=hZ (HI5.o.yes h1);clear h1 HI5;refine HC.o.mono ?_;rintro e w7 ⟨rfl,hq⟩;have HN7:=hZ (HN5.o.step hq);clear hq HN5 HC;have HC:=hZ (qCy b s T (z.drop 1) false w7 HW.o HN7.o.e.q)
  go_wp2_with fail
  refine HC.o.mono ?_;rintro e w8 ⟨u8,z8,bd8,⟨v8,rfl,g8,hp8,hg8,-⟩,hq8,hr8⟩;obtain⟨a8,cp8,rfl, -,-⟩:=TSl.form hp8;have HQ8:=hZ hq8;have HV8:=hZ hp8;have HG8:=hZ hg8;have HN8:=hZ (HN7.o.step hr8);clear hq8 hr8 hp8 hg8 HN7 HC;obtain⟨y,hd,hy⟩:=HN8.o.e.d;have hc:w8.cell? ⟨bd,14,none⟩=some (y.b):=hd.cell 14;have hf:=hd.frozen 14;have HP:=hZ (QE.put (d':={ d with back:=g8 }) (y':={ y with b:=.slice a8 g8.length cp8 }) HN8.o.e.q hd 14 (.slice a8 g8.length cp8) rfl (⟨hy.t,hy.g,HV8.o,hy.r,hy.x⟩));clear hd hy
  go_wp2_with fail
  go_ret;refine⟨qBo HN8.o.o 14 _,.inl ⟨.back,by decide,Hon.o,rfl,u8.map (fun n=>{ d with back:=n }),z8,bd8,{ d with back:=g8 },QR.map _ (fun l=>by unfold pFg;simp only[];cases qAw l<;>rfl) HQ8.o,(fun x hx=> ?_),HP.o⟩⟩;have h9:=HG8.o;cases u8 with
  |none=>cases hx
  |some n=>injection hx with hx;rw[<-hx,h9 n rfl]
 have HC:=hZ (qBE b s T z c5 qCb _ seen x5 (by simpa using h1) HN5.o.e.q HN5.o.s hl);have HI6:Hid (QI [qAo,qBG,qAy,qBZ,qB4,qCb] seen bad z (c5||isX qCb z)):=hZ (HI5.o.step (by decide) (by simpa using h1));clear h1 HI5;refine HC.o.mono ?_;rintro e x6 ⟨rfl,hq⟩;have HN6:=hZ (HN5.o.step hq);clear hq HN5 HC;obtain⟨c6,hc⟩:=eX ((c5||isX qCb z));rw[hc]at HN6 HI6;clear hc
 go_wp2_with fail
 go_ret;obtain⟨h8,h9⟩:=HI6.o;refine⟨HN6.o.o,.inr ⟨fun f hf=>h9 _ (by revert f;decide),rfl,?_⟩⟩;have:=HN6.o.e;rw[h8]at this;simpa[qBT,Fg.word,Bool.or_comm,Bool.or_left_comm,Bool.or_assoc]using this
theorem qFz:qD4 Tryz.prog 37 9 1 16:=qD4.mk (z:=.string ⟨#[]⟩) Tryz.underlying37 (by kernel_rfl) rfl (by decide)
def stC(x:Bs):List Value:=[.string ⟨x.toArray⟩]
theorem qB2.of_own{w:World}{base:Nat}{v:Value}{l:List Bs}(h:w.ownsRow base 9 1 v l.length (l.flatMap stC)):qB2 w v l:=by
 refine TSl.of_own (css:=l.map stC) (base:=base) (n:=l.length) (by rw[<-List.flatMap_def];exact h) rfl (by simp[stC]) (by simp) ?_;intro j h1 h2;simp[stC]
def qM2(w:World)(b:Nat)(ag:Value):Nat:=match ag,w.cell? ⟨b,3,none⟩with|.bool true,some (.bool false)=>1+(match w.cell? ⟨b,1,none⟩,w.cell? ⟨b,2,none⟩with|some (.slice _ n _),some (.int _ i)=>n-i.toNat|_,_=>0)|_,_=>0
theorem QS.m2{w:World}{b:Nat}{s:ByteArray}{T z:List Tok}{bad:Bool}(h:QS w b s T z bad)(ag:Bool):qM2 w b (.bool ag)=if ag && !bad then z.length+1 else 0:=by
 obtain⟨v,i,a,cap,hb, -,rfl,hi,rfl,-⟩:=h.at_;have c1:w.cell? ⟨b,1,none⟩=some (.slice a T.length cap):=hb.cell 1;have c2:w.cell? ⟨b,2,none⟩=some (.int .i64 i):=hb.cell 2;have c3:w.cell? ⟨b,3,none⟩=some (.bool bad):=hb.cell 3;unfold qM2;rw[c1,c2,c3];cases ag<;>cases bad<;>simp
 omega
theorem qF0{w w':World}{b bd base e k n:Nat}{v:Value}{xs:List Value}(h:qAf (S2 b bd) w w')(ho:w.ownsRow base e k v n xs)(h1:b<base)(h2:bd<base):w'.ownsRow base e k v n xs:=
 h.own ho (fun c hc he=>by have:=(ho.lt c hc).1;rcases he with rfl|rfl<;>omega)
theorem QE.kp{X:List TypeId}{w w':World}{b bd:Nat}{s:ByteArray}{T z:List Tok}{bad:Bool}{d:Dc}(h:QE w b bd s T z bad d)(hk:KpX X w w')(h1:78∉X)(h2:80∉X)(h3:35∉X)(h4:96∉X)(h5:31∉X)(h6:98∉X):QE w' b bd s T z bad d:=by
 obtain⟨y,h7,h8⟩:=h.d;exact⟨h.q.kp hk h1 h2,y,hk _ _ bd h3 h7,h8.kp hk h4 h5 h6⟩
def qEH(b bd:Nat)(s:ByteArray)(T:List Tok)(R:Option Dc->Bool->List Tok->Prop)(w:World)(e:Ending)(w':World):Prop:=
 e=.returned (.tuple #[])/\∃u z' bad' d',R u bad' z'/\(∀x,u=some x->d'=x)/\QE w' b bd s T z' bad' d'/\qAf (S2 b bd) w w'
theorem qHt(b bd:Nat)(s:ByteArray)(T z:List Tok)(bad:Bool)(d:Dc)(w:World)(hw:WfL T)(h:QE w b bd s T z bad d):
 Calls Tryz.prog 69 #[.pointer (some ⟨b,0,none⟩),.pointer (some ⟨bd,0,none⟩)] w (qEH b bd s T (FR bad z d) w):=by
 have HE:=hZ h;have hlb:=h.q.lt;have hld:bd<w.heap.size:=by obtain⟨y,h1,-⟩:=h.d;exact h1.lt
 have HW:=hZ hw;have Hz:=hZ h.q.len;clear h hw
 go_enter Tryz.func69,Tryz.ntmps69
 go_wp2_with fail
 go_loopw [4,5] (fun v ag wr=>∃(sd:List Bs) (again:Bool) (z1:List Tok) (b1:Bool) (d1:Dc),ag=.bool again/\Hid (FI bad z d again z1 b1 d1 sd)/\Hid (sd.length+(if again && !b1 then z1.length+1 else 0)<=100001)/\Hid (QE wr b bd s T z1 b1 d1)/\Hid (wr.ownsRow w.heap.size 9 1 v sd.length (sd.flatMap stC))/\Hid (qAf (S2 b bd) w wr)) (fun _ ag wr=>qM2 wr b ag)
 case atStart=>
  refine⟨[],true,z,bad,d,rfl,hZ (FI.start bad z d),hZ (by have:=Hz.o;simp;split<;>omega),HE,hZ (World.ownsRow_nil _ _ _ _),hZ (qAf.refl _ _)⟩
 case round=>
  obtain⟨sd,again,z1,b1,d1,rfl,HF,HL,HE1,HO,HK⟩:=hrel;clear HE;obtain⟨v1,i1,a1,cp1,hb1,ht1,hv1, -, -,-⟩:=HE1.o.q.at_;have c3:wr.cell? ⟨b,3,none⟩=some (.bool b1):=hb1.cell 3;clear hb1 ht1;by_cases hgo:again=true/\b1=false;rotate_left
  ·have hg:(again && !b1)=false:=by cases again<;>cases b1<;>simp at hgo ⊢
   have HG:=hZ hg;clear hgo hg;cases again with
   |false=>
    go_wp2_with fail
    go_end0
    have h9:=HF.o;unfold FI at h9;rw[HG.o]at h9;obtain⟨u,h9,h8⟩:=h9;exact⟨rfl,u,z1,b1,d1,h9,h8,HE1.o,HK.o⟩
   |true=>
    obtain rfl:b1=true:=by have:=HG.o;simpa using this
    go_wp2_with fail
    go_end0
    have h9:=HF.o;unfold FI at h9;rw[HG.o]at h9;obtain⟨u,h9,h8⟩:=h9;exact⟨rfl,u,z1,true,d1,h9,h8,HE1.o,HK.o⟩
  obtain⟨rfl,rfl⟩:=hgo;have hkd:d1.kind=d.kind:=HF.o.2.1;have hsl:sd.length<=100000:=by have:=HL.o;simp at this;omega
  have HST:=hZ (qB2.of_own HO.o);obtain⟨av,cv,rfl, -,-⟩:=TSl.form HST.o;obtain⟨y1,hd1,hy1⟩:=HE1.o.d;have ck:wr.cell? ⟨bd,0,none⟩=some (.int .i64 d.kind):=by have:=hd1.cell 0;rw[<-hkd];exact this
  clear hd1 hy1 hkd;have hsl2:sd.length<=1000000:=by omega
  by_cases hk0:d.kind=0
  ·have HKN:Hid (qBP d.kind=qCs):=hZ (by unfold qBP;rw[if_pos hk0])
   have HC:=hZ (qIa b bd s T z1 false d1 _ sd wr HW.o HE1.o HST.o hsl2)
   go_wp2_with fail
   refine HC.o.mono ?_;rintro e w2 hp2;have HK2:=hZ (HK.o.trans hp2.1);have HO2:=hZ (qF0 hp2.1 HO.o hlb hld);clear HO HC HST HK hsl2;rcases hp2.2 with ⟨f,hf,hon,rfl,u2,z2,b2,d2,hq2,hu2,he2⟩|⟨hno,rfl,he2⟩
   ·have HT:=hZ (HF.o.some (HE1.o.q.word HW.o (qCX d.kind f (by rw[HKN.o];exact hf))) (by rw[HKN.o];exact hf) hon hq2 hu2)
    have HE2:=hZ he2;have hwb:(f.word==[])=false:=by cases f<;>rfl
    clear hq2 hu2 hon hf he2 hp2;obtain⟨x,hx⟩:=eX f.word;rw[hx]at HT hwb ⊢;clear hx;have hxn:x≠[]:=by rintro rfl;cases hwb
    go_wp2_with (at_builtin;refine qAB (W0:=w2) qFz rfl _ _ rfl (stC x) 9 _ _ _ rfl rfl rfl (by simp[stC,Value.oneCell']) HO2.o (Below.refl _ _) HK2.o.size (by omega) (by omega) ?_)
    intro g5 cap5 w5 HO5 HB5 HW5 hcap5 hat5;have HE5:=hZ (HE2.o.kp (KpX.own (X:=[9]) HO2.o HW5.o (by simp)) (by decide) (by decide) (by decide) (by decide) (by decide) (by decide));have HK5:=hZ (HK2.o.behind HB5.o);clear HE2 HO2 HK2 HB5 HW5 hat5;have hal:sd.length+1=(sd++[x]).length:=by simp
    have hfl:sd.flatMap stC++stC x=(sd++[x]).flatMap stC:=by simp
    rw[hal,hfl]at HO5;rw[hal];obtain⟨sd',ha'⟩:∃l,sd++[x]=l:=⟨_,rfl⟩;rw[ha']at HO5 HT ⊢;have Hal:=hZ hal;rw[ha']at Hal;clear hal hfl ha' hcap5 c3 ck
    go_wp2_with fail
    go_roundw
    case rel=>exact⟨sd',true,z2,b2,d2,rfl,hZ HT.o.1,hZ (by have h8:=HL.o;have h9:=HT.o.2;have h7:=Hal.o;cases b2<;>simp at h8 h9 ⊢ <;>omega),HE5,HO5,HK5⟩
    case measure=>
     rw[HE5.o.q.m2 true,HE1.o.q.m2 true];have h9:=HT.o.2;cases b2<;>simp at h9 ⊢ <;>omega
   ·have HT:Hid (FI bad z d false z1 _ d1 (sd++[[]])):=hZ (HF.o.none (fun f hf=>HE1.o.q.word HW.o (qCX d.kind f hf)) (HE1.o.q.sym HW.o (by decide)) (by rw[HKN.o];exact hno))
    rw[HKN.o]at HT;have HE2:=hZ he2;clear he2 hno hp2;obtain⟨b2,hb2⟩:=eX ((false||qCs.any (fun f=>isX f.word z1)));rw[hb2]at HT HE2;clear hb2
    go_wp2_with (at_builtin;refine qAB (W0:=w2) qFz rfl _ _ rfl (stC []) 9 _ _ _ rfl rfl rfl (by simp[stC,Value.oneCell']) HO2.o (Below.refl _ _) HK2.o.size (by omega) (by omega) ?_)
    intro g5 cap5 w5 HO5 HB5 HW5 hcap5 hat5;have HE5:=hZ (HE2.o.kp (KpX.own (X:=[9]) HO2.o HW5.o (by simp)) (by decide) (by decide) (by decide) (by decide) (by decide) (by decide));have HK5:=hZ (HK2.o.behind HB5.o);clear HE2 HO2 HK2 HB5 HW5 hat5;have hal:sd.length+1=(sd++[[]]).length:=by simp
    have hfl:sd.flatMap stC++stC []=(sd++[[]]).flatMap stC:=by simp
    rw[hal,hfl]at HO5;rw[hal];obtain⟨sd',ha'⟩:∃l,sd++[[]]=l:=⟨_,rfl⟩;rw[ha']at HO5 HT ⊢;have Hal:=hZ hal;rw[ha']at Hal;clear hal hfl ha' hcap5 c3 ck
    go_wp2_with fail
    go_roundw
    case rel=>exact⟨sd',false,z1,b2,d1,rfl,HT,hZ (by have h8:=HL.o;have h7:=Hal.o;simp at h8 ⊢;omega),HE5,HO5,HK5⟩
    case measure=>
     rw[HE5.o.q.m2 false,HE1.o.q.m2 true];simp
  ·have HKN:Hid (qBP d.kind=qBT):=hZ (by unfold qBP;rw[if_neg hk0])
   have HC:=hZ (qH8 b bd s T z1 false d1 _ sd wr HW.o HE1.o HST.o hsl2)
   go_wp2_with fail
   refine HC.o.mono ?_;rintro e w2 hp2;have HK2:=hZ (HK.o.trans hp2.1);have HO2:=hZ (qF0 hp2.1 HO.o hlb hld);clear HO HC HST HK hsl2;rcases hp2.2 with ⟨f,hf,hon,rfl,u2,z2,b2,d2,hq2,hu2,he2⟩|⟨hno,rfl,he2⟩
   ·have HT:=hZ (HF.o.some (HE1.o.q.word HW.o (qCX d.kind f (by rw[HKN.o];exact hf))) (by rw[HKN.o];exact hf) hon hq2 hu2)
    have HE2:=hZ he2;have hwb:(f.word==[])=false:=by cases f<;>rfl
    clear hq2 hu2 hon hf he2 hp2;obtain⟨x,hx⟩:=eX f.word;rw[hx]at HT hwb ⊢;clear hx;have hxn:x≠[]:=by rintro rfl;cases hwb
    go_wp2_with (at_builtin;refine qAB (W0:=w2) qFz rfl _ _ rfl (stC x) 9 _ _ _ rfl rfl rfl (by simp[stC,Value.oneCell']) HO2.o (Below.refl _ _) HK2.o.size (by omega) (by omega) ?_)
    intro g5 cap5 w5 HO5 HB5 HW5 hcap5 hat5;have HE5:=hZ (HE2.o.kp (KpX.own (X:=[9]) HO2.o HW5.o (by simp)) (by decide) (by decide) (by decide) (by decide) (by decide) (by decide));have HK5:=hZ (HK2.o.behind HB5.o);clear HE2 HO2 HK2 HB5 HW5 hat5;have hal:sd.length+1=(sd++[x]).length:=by simp
    have hfl:sd.flatMap stC++stC x=(sd++[x]).flatMap stC:=by simp
    rw[hal,hfl]at HO5;rw[hal];obtain⟨sd',ha'⟩:∃l,sd++[x]=l:=⟨_,rfl⟩;rw[ha']at HO5 HT ⊢;have Hal:=hZ hal;rw[ha']at Hal;clear hal hfl ha' hcap5 c3 ck
    go_wp2_with fail
    go_roundw
    case rel=>exact⟨sd',true,z2,b2,d2,rfl,hZ HT.o.1,hZ (by have h8:=HL.o;have h9:=HT.o.2;have h7:=Hal.o;cases b2<;>simp at h8 h9 ⊢ <;>omega),HE5,HO5,HK5⟩
    case measure=>
     rw[HE5.o.q.m2 true,HE1.o.q.m2 true];have h9:=HT.o.2;cases b2<;>simp at h9 ⊢ <;>omega
   ·have HT:Hid (FI bad z d false z1 _ d1 (sd++[[]])):=hZ (HF.o.none (fun f hf=>HE1.o.q.word HW.o (qCX d.kind f hf)) (HE1.o.q.sym HW.o (by decide)) (by rw[HKN.o];exact hno))
    rw[HKN.o]at HT;have HE2:=hZ he2;clear he2 hno hp2;obtain⟨b2,hb2⟩:=eX ((false||qBT.any (fun f=>isX f.word z1)));rw[hb2]at HT HE2;clear hb2
    go_wp2_with (at_builtin;refine qAB (W0:=w2) qFz rfl _ _ rfl (stC []) 9 _ _ _ rfl rfl rfl (by simp[stC,Value.oneCell']) HO2.o (Below.refl _ _) HK2.o.size (by omega) (by omega) ?_)
    intro g5 cap5 w5 HO5 HB5 HW5 hcap5 hat5;have HE5:=hZ (HE2.o.kp (KpX.own (X:=[9]) HO2.o HW5.o (by simp)) (by decide) (by decide) (by decide) (by decide) (by decide) (by decide));have HK5:=hZ (HK2.o.behind HB5.o);clear HE2 HO2 HK2 HB5 HW5 hat5;have hal:sd.length+1=(sd++[[]]).length:=by simp
    have hfl:sd.flatMap stC++stC []=(sd++[[]]).flatMap stC:=by simp
    rw[hal,hfl]at HO5;rw[hal];obtain⟨sd',ha'⟩:∃l,sd++[[]]=l:=⟨_,rfl⟩;rw[ha']at HO5 HT ⊢;have Hal:=hZ hal;rw[ha']at Hal;clear hal hfl ha' hcap5 c3 ck
    go_wp2_with fail
    go_roundw
    case rel=>exact⟨sd',false,z1,b2,d1,rfl,HT,hZ (by have h8:=HL.o;have h7:=Hal.o;simp at h8 ⊢;omega),HE5,HO5,HK5⟩
    case measure=>
     rw[HE5.o.q.m2 false,HE1.o.q.m2 true];simp
theorem qIz(k:Int)(z:List Tok):qEM k z=isT k [] z:=by
 cases z with
 |nil=>rfl
 |cons t r=>simp[qEM,isT,Tok.is]
def atZ(bad:Bool)(z:List Tok):Int:=if bad then 0 else match z with|[]=>0|t::_=>if t.kind=1 then t.at_ else 0
theorem qGP{bad bd2 bd3:Bool}{z z2 z3:List Tok}{u2:Option Int}{u3:Option Unit}(h2:QR qAP bad z u2 bd2 z2)(h3:QR (pX [58]) bd2 z2 u3 bd3 z3)(hX:isX [58] z2=isT 2 [58] z2)(hk:(!bd3 && qEM 1 z3)=false):
 ∃u,QR qCu bad z u bd3 z3/\∀x,u=some x->[⟨u2.getD 0,[],atZ bad z⟩]=x:=by
 obtain⟨u9, -,h4⟩:=QR.tok (k:=2) (by decide) hX h3;cases bad with
 |true=>
  obtain⟨rfl,rfl,rfl⟩:=h2;obtain⟨rfl,rfl,rfl⟩:=h3;exact⟨none,QR.bad,nofun⟩
 |false=>
  unfold QR at h2;simp only[Bool.false_eq_true,if_false]at h2;cases h1:qAL 1 [] z with
  |error r=>
   have e:qAP z=.error r:=by unfold qAP;rw[h1]
   rw[e]at h2;obtain⟨rfl,rfl,rfl⟩:=h2;obtain⟨rfl,rfl,rfl⟩:=h3;exact⟨none,QR.err (by unfold qCu;rw[h1]),nofun⟩
  |ok a=>
   have e:qAP z=.ok (a.1.n,a.2):=by unfold qAP;rw[h1]
   rw[e]at h2;obtain⟨rfl,rfl,rfl⟩:=h2;have hat:atZ false z=a.1.at_:=by
    cases z with
    |nil=>cases h1
    |cons t r=>
     simp only[qAL]at h1
     split at h1
     ·rename_i hi
      cases h1
      simp[Tok.is]at hi;simp[atZ,hi]
     ·cases h1
   unfold QR at h4;simp only[Bool.false_eq_true,if_false]at h4;cases h5:qAL 2 [58] a.2 with
   |error r=>
    rw[h5]at h4;obtain⟨rfl,rfl,rfl⟩:=h4;exact⟨none,QR.err (by unfold qCu;rw[h1];simp only[h5]),nofun⟩
   |ok c=>
    rw[h5]at h4;obtain⟨rfl,rfl,rfl⟩:=h4;rw[qIz]at hk;refine⟨some [⟨a.1.n,[],a.1.at_⟩],QR.ok ?_,fun x hx=>by injection hx with hx;rw[<-hx,hat];rfl⟩;unfold qCu;rw[h1];simp only[h5];rw[if_neg (by simpa using hk)]
theorem qGQ{bad bd2 bd4:Bool}{z z2 z3 z4:List Tok}{u2:Option Int}{u3:Option Unit}{u4:Option (List Pr)}(h2:QR qAP bad z u2 bd2 z2)(h3:QR (pX [58]) bd2 z2 u3 false z3)(hX:isX [58] z2=isT 2 [58] z2)(hk:qEM 1 z3=true)(h6:QR qAw false z3 u4 bd4 z4):
 ∃u,QR qCu bad z u bd4 z4/\∀x,u=some x->∃y,u4=some y/\⟨u2.getD 0,[],atZ bad z⟩::y=x:=by
 obtain⟨u9, -,h4⟩:=QR.tok (k:=2) (by decide) hX h3;cases bad with
 |true=>
  obtain⟨rfl,rfl,rfl⟩:=h2;obtain⟨h3,-⟩:=h3;cases h3
 |false=>
  unfold QR at h2;simp only[Bool.false_eq_true,if_false]at h2;cases h1:qAL 1 [] z with
  |error r=>
   have e:qAP z=.error r:=by unfold qAP;rw[h1]
   rw[e]at h2;obtain⟨rfl,rfl,rfl⟩:=h2;obtain⟨h3,-⟩:=h3;cases h3
  |ok a=>
   have e:qAP z=.ok (a.1.n,a.2):=by unfold qAP;rw[h1]
   rw[e]at h2;obtain⟨rfl,rfl,rfl⟩:=h2;have hat:atZ false z=a.1.at_:=by
    cases z with
    |nil=>cases h1
    |cons t r=>
     simp only[qAL]at h1
     split at h1
     ·rename_i hi
      cases h1
      simp[Tok.is]at hi;simp[atZ,hi]
     ·cases h1
   unfold QR at h4;simp only[Bool.false_eq_true,if_false]at h4;cases h5:qAL 2 [58] a.2 with
   |error r=>
    rw[h5]at h4;obtain⟨h4,-⟩:=h4;cases h4
   |ok c=>
    rw[h5]at h4;obtain⟨rfl, -,rfl⟩:=h4;rw[qIz]at hk;unfold QR at h6;simp only[Bool.false_eq_true,if_false]at h6;cases h7:qAw c.2 with
    |error r=>
     rw[h7]at h6;obtain⟨rfl,rfl,rfl⟩:=h6;refine⟨none,QR.err ?_,nofun⟩;unfold qCu;rw[h1];simp only[h5];rw[if_pos hk,h7]
    |ok y=>
     rw[h7]at h6;obtain⟨rfl,rfl,rfl⟩:=h6;refine⟨some (⟨a.1.n,[],a.1.at_⟩::y.1),QR.ok ?_,fun x hx=>⟨y.1,rfl,by injection hx with hx;rw[<-hx,hat];rfl⟩⟩;unfold qCu;rw[h1];simp only[h5];rw[if_pos hk,h7]
def RV(w:World)(e:Ending)(u:Option (List Pr)):Prop:=∃v g,e=.returned v/\qAA 96 w v g/\∀x,u=some x->g=x
theorem qGo{b:Nat}{s:ByteArray}{T z:List Tok}{bad:Bool}{w w1:World}(h:QS w1 b s T z bad)(h1:Below w.heap.size w w1):∀w',Below w1.heap.size w1 w'->
 Calls Tryz.prog 86 #[.pointer (some ⟨b,0,none⟩)] w' fun e w3=>∃u z' bad',e=.returned (qHA u)/\QR qAP bad z u bad' z'/\QOk w w3 b s T z' bad':=by
 intro w' hB;refine(qAQ b s T z bad w' (h.below hB)).mono ?_;rintro e w3 ⟨u,z',bad',h2,h3,h4⟩;exact⟨u,z',bad',h2,h3,h4.1,((qAf.of_below h1).trans (qAf.of_below hB)).trans h4.2⟩
theorem qGR(b:Nat)(s:ByteArray)(T z:List Tok)(bad:Bool)(w:World)(hw:WfL T)(h:QS w b s T z bad):
 Calls Tryz.prog 85 #[.pointer (some ⟨b,0,none⟩)] w (qJU b s T qCu bad z w RV):=by
 have HC:=hZ (qCz b s T z bad 1 w h);have HS:=hZ h;have HW:=hZ hw;have hlb:=h.lt;clear h hw
 go_enter Tryz.func85,Tryz.ntmps85
 go_wp2_with fail
 refine HC.o.mono ?_;rintro e w1 ⟨rfl,hB1⟩;have HS1:=hZ (HS.o.below hB1);have HC2:=hZ (qGo HS1.o hB1);clear hB1 HS HC;by_cases hk:(!bad && qEM 1 z)=true
 ·rw[hk]
  obtain⟨rfl,hk1⟩:bad=false/\qEM 1 z=true:=by simpa using hk
  obtain⟨v,i,a,cap,hb,ht,rfl,hi,hz,hT⟩:=HS1.o.at_;have c1:w1.cell? ⟨b,1,none⟩=some (.slice a T.length cap):=hb.cell 1;have c2:w1.cell? ⟨b,2,none⟩=some (.int .i64 i):=hb.cell 2;have hlt:i<T.length:=by
   rcases Nat.lt_or_ge i T.length with h|h
   ·exact h
   ·rw[hz,List.drop_of_length_le h]at hk1;cases hk1
  have hat:atZ false z=T[i].at_:=by
   rw[hz,List.drop_eq_getElem_cons hlt]at hk1 ⊢;have:T[i].kind=1:=by simpa[qEM]using hk1
   simp[atZ,this]
  obtain⟨g,off,cp,hv,k1,k2,hg, -, -, -,t3⟩:=ht.nth i hlt;injection hv with hv _ hv2;subst hv hv2;have hn0:(0:Int)<=(i:Int):=by omega
  have hn1:(i:Int)<(T.length:Int):=by omega
  have Hat:=hZ hat;clear hb ht hk hk1 hz hat hi;generalize T[i].at_=ta at *
  go_wp2_with fail
  go_region
  go_wp2_with fail
  clear c1 c2 t3 hn0 hn1 hlt;refine(HC2.o _ (qAt _ _)).mono ?_;rintro e w3 ⟨u3,z3,bd3,rfl,hq3,hr3⟩;have HQ3:=hZ hq3;have HK3:=hZ hr3.2;have HS3:=hZ hr3.1;clear hq3 hr3 HC2 HS1;unfold qHA;obtain⟨n3,hn3⟩:=eX (u3.getD 0);rw[hn3];have Hn3:=hZ hn3;clear hn3;obtain⟨w5,hw5⟩:=eX (w3.alloc (.cells #[.int .i64 n3,.string ⟨#[]⟩,.int .i64 ta] 96));have hB5:Below w3.heap.size w3 w5:=by rw[<-hw5];exact qAa _ _
  have HW5:Hid (w5.ownsRow w3.heap.size 96 3 (.slice (some ⟨w3.heap.size,0,none⟩) 1 1) 1 (prC ⟨n3,[],ta⟩)):=hZ (by rw[<-hw5];exact qFn w3 96 (prC ⟨n3,[],ta⟩) 3 w3.heap.size rfl (Nat.le_refl _));have HS5:=hZ (HS3.o.below hB5);have HK5:=hZ (HK3.o.trans (qAf.of_below hB5));have hb3:b<w3.heap.size:=HS3.o.lt;have hz5:w3.heap.size<w5.heap.size:=by rw[<-hw5];simp
  have HC5:=hZ (qAX b s T z3 bd3 [58] w5 HS5.o);have Hsy:=hZ (HS5.o.sym HW.o (x:=[58]) (by decide));have HKz:=hZ HK3.o.size;clear hB5 HS3 HK3
  go_wp2_with fail
  clear hw5;refine HC5.o.mono ?_;rintro e w6 ⟨u6,z6,bd6,rfl,hq6,hr6⟩;have HQ6:=hZ hq6;have HS6:=hZ hr6.1;have HK6:=hZ (HK5.o.trans hr6.2);have HW6:=hZ (hr6.2.own HW5.o (fun k hk he=>by have:=(HW5.o.lt k hk).1;omega));have hz6:w3.heap.size<w6.heap.size:=Nat.lt_of_lt_of_le hz5 hr6.2.size;have HC6:=hZ (qCz b s T z6 bd6 1 w6 hr6.1);clear hq6 hr6 HS5 HK5 HC5 HW5 hz5
  go_wp2_with fail
  refine HC6.o.mono ?_;rintro e w7 ⟨rfl,hB7⟩;have HS7:=hZ (HS6.o.below hB7);have HK7:=hZ (HK6.o.trans (qAf.of_below hB7));have HW7:=hZ ((qAf.of_below (S:=fun _=>False) hB7).own HW6.o (fun _ _ h=>h));have hz7:w3.heap.size<w7.heap.size:=Nat.lt_of_lt_of_le hz6 hB7.size;clear hB7 HS6 HK6 HC6 HW6 hz6;by_cases hk6:(!bd6 && qEM 1 z6)=true
  ·rw[hk6]
   obtain⟨rfl,hk7⟩:bd6=false/\qEM 1 z6=true:=by simpa using hk6
   have Hk7:=hZ hk7;clear hk6 hk7;have HC7:=hZ (qCy b s T z6 false w7 HW.o HS7.o)
   go_wp2_with fail
   refine HC7.o.mono ?_;rintro e w8 ⟨u8,z8,bd8,⟨v8,rfl,g8,hp8,hg8,hl8,hne8⟩,hq8,hr8⟩;have hne8:=hne8 rfl;have HQ8:=hZ hq8;have HG8:=hZ hg8;have HP8:=hZ hp8;have HK8:=hZ (HK7.o.trans hr8.2);have HS8:=hZ hr8.1;have HW8:=hZ (hr8.2.own HW7.o (fun k hk he=>by have:=(HW7.o.lt k hk).1;omega));have hz8:w3.heap.size<=w8.heap.size:=Nat.le_of_lt (Nat.lt_of_lt_of_le hz7 hr8.2.size);clear hq8 hg8 hr8 HK7 HS7 HW7 HC7;obtain⟨au,cu,rfl, -,-⟩:=TSl.form hp8;obtain⟨ad,rfl, -,hcs⟩:=TSl.flat hp8 (fun x=>rfl) (by decide) hne8;clear hp8 hne8
   go_wp2_with (at_builtin;refine qCa (W0:=w8) qDO rfl _ _ rfl _ _ _ rfl ad g8.length cu (g8.flatMap prC) rfl (qCF g8) hcs (qGp g8) HW8.o (Below.refl _ _) hz8 (by omega) (by omega) ?_)
   intro v9 w9 HW9 HB9 HF9;have HS9:=hZ (HS8.o.kp (KpX.own (X:=[96]) HW8.o HF9.o (by simp)) (by decide) (by decide));have HK9:=hZ (HK8.o.behind (HB9.o.mono HKz.o));have HP9:Hid (qAA 96 w9 v9 (⟨n3,[],ta⟩::g8)):=hZ (qAA.of_own (base:=w3.heap.size) (by rw[List.length_cons,List.flatMap_cons,Nat.add_comm];exact HW9.o));clear HB9 HF9 HW9 HK8 HS8 HW8 hcs
   go_wp2_with fail
   go_ret;obtain⟨u,h8,h9⟩:=qGQ HQ3.o HQ6.o Hsy.o Hk7.o HQ8.o;refine⟨u,z8,bd8,⟨_,_,rfl,HP9.o,fun x hx=> ?_⟩,h8,HS9.o,HK9.o⟩;obtain⟨y,h10,h11⟩:=h9 x hx;rw[<-h11,HG8.o y h10,Hn3.o,Hat.o]
  ·rw[Bool.not_eq_true]at hk6
   rw[hk6];have Hk6:=hZ hk6;clear hk6;have HP7:Hid (qAA 96 w7 (.slice (some ⟨w3.heap.size,0,none⟩) 1 1) [⟨n3,[],ta⟩]):=hZ (qAA.of_own (base:=w3.heap.size) (by simpa using HW7.o))
   go_wp2_with fail
   go_ret;obtain⟨u,h8,h9⟩:=qGP HQ3.o HQ6.o Hsy.o Hk6.o;refine⟨u,z6,bd6,⟨_,_,rfl,HP7.o,fun x hx=> ?_⟩,h8,HS7.o,HK7.o⟩;rw[<-h9 x hx,Hn3.o,Hat.o]
 ·rw[Bool.not_eq_true]at hk
  rw[hk];have Hat:Hid (atZ bad z=0):=hZ (by
   cases bad with
   |true=>rfl
   |false=>
    cases z with
    |nil=>rfl
    |cons t r=>
     have:¬t.kind=1:=by simpa[qEM]using hk
     simp[atZ,this])
  clear hk
  go_wp2_with fail
  refine(HC2.o _ (Below.refl _ _)).mono ?_;rintro e w3 ⟨u3,z3,bd3,rfl,hq3,hr3⟩;have HQ3:=hZ hq3;have HK3:=hZ hr3.2;have HS3:=hZ hr3.1;clear hq3 hr3 HC2 HS1;unfold qHA;obtain⟨n3,hn3⟩:=eX (u3.getD 0);rw[hn3];have Hn3:=hZ hn3;clear hn3;obtain⟨w5,hw5⟩:=eX (w3.alloc (.cells #[.int .i64 n3,.string ⟨#[]⟩,.int .i64 0] 96));have hB5:Below w3.heap.size w3 w5:=by rw[<-hw5];exact qAa _ _
  have HW5:Hid (w5.ownsRow w3.heap.size 96 3 (.slice (some ⟨w3.heap.size,0,none⟩) 1 1) 1 (prC ⟨n3,[],0⟩)):=hZ (by rw[<-hw5];exact qFn w3 96 (prC ⟨n3,[],0⟩) 3 w3.heap.size rfl (Nat.le_refl _));have HS5:=hZ (HS3.o.below hB5);have HK5:=hZ (HK3.o.trans (qAf.of_below hB5));have hb3:b<w3.heap.size:=HS3.o.lt;have hz5:w3.heap.size<w5.heap.size:=by rw[<-hw5];simp
  have HC5:=hZ (qAX b s T z3 bd3 [58] w5 HS5.o);have Hsy:=hZ (HS5.o.sym HW.o (x:=[58]) (by decide));have HKz:=hZ HK3.o.size;clear hB5 HS3 HK3
  go_wp2_with fail
  clear hw5;refine HC5.o.mono ?_;rintro e w6 ⟨u6,z6,bd6,rfl,hq6,hr6⟩;have HQ6:=hZ hq6;have HS6:=hZ hr6.1;have HK6:=hZ (HK5.o.trans hr6.2);have HW6:=hZ (hr6.2.own HW5.o (fun k hk he=>by have:=(HW5.o.lt k hk).1;omega));have hz6:w3.heap.size<w6.heap.size:=Nat.lt_of_lt_of_le hz5 hr6.2.size;have HC6:=hZ (qCz b s T z6 bd6 1 w6 hr6.1);clear hq6 hr6 HS5 HK5 HC5 HW5 hz5
  go_wp2_with fail
  refine HC6.o.mono ?_;rintro e w7 ⟨rfl,hB7⟩;have HS7:=hZ (HS6.o.below hB7);have HK7:=hZ (HK6.o.trans (qAf.of_below hB7));have HW7:=hZ ((qAf.of_below (S:=fun _=>False) hB7).own HW6.o (fun _ _ h=>h));have hz7:w3.heap.size<w7.heap.size:=Nat.lt_of_lt_of_le hz6 hB7.size;clear hB7 HS6 HK6 HC6 HW6 hz6;by_cases hk6:(!bd6 && qEM 1 z6)=true
  ·rw[hk6]
   obtain⟨rfl,hk7⟩:bd6=false/\qEM 1 z6=true:=by simpa using hk6
   have Hk7:=hZ hk7;clear hk6 hk7;have HC7:=hZ (qCy b s T z6 false w7 HW.o HS7.o)
   go_wp2_with fail
   refine HC7.o.mono ?_;rintro e w8 ⟨u8,z8,bd8,⟨v8,rfl,g8,hp8,hg8,hl8,hne8⟩,hq8,hr8⟩;have hne8:=hne8 rfl;have HQ8:=hZ hq8;have HG8:=hZ hg8;have HP8:=hZ hp8;have HK8:=hZ (HK7.o.trans hr8.2);have HS8:=hZ hr8.1;have HW8:=hZ (hr8.2.own HW7.o (fun k hk he=>by have:=(HW7.o.lt k hk).1;omega));have hz8:w3.heap.size<=w8.heap.size:=Nat.le_of_lt (Nat.lt_of_lt_of_le hz7 hr8.2.size);clear hq8 hg8 hr8 HK7 HS7 HW7 HC7;obtain⟨au,cu,rfl, -,-⟩:=TSl.form hp8;obtain⟨ad,rfl, -,hcs⟩:=TSl.flat hp8 (fun x=>rfl) (by decide) hne8;clear hp8 hne8
   go_wp2_with (at_builtin;refine qCa (W0:=w8) qDO rfl _ _ rfl _ _ _ rfl ad g8.length cu (g8.flatMap prC) rfl (qCF g8) hcs (qGp g8) HW8.o (Below.refl _ _) hz8 (by omega) (by omega) ?_)
   intro v9 w9 HW9 HB9 HF9;have HS9:=hZ (HS8.o.kp (KpX.own (X:=[96]) HW8.o HF9.o (by simp)) (by decide) (by decide));have HK9:=hZ (HK8.o.behind (HB9.o.mono HKz.o));have HP9:Hid (qAA 96 w9 v9 (⟨n3,[],0⟩::g8)):=hZ (qAA.of_own (base:=w3.heap.size) (by rw[List.length_cons,List.flatMap_cons,Nat.add_comm];exact HW9.o));clear HB9 HF9 HW9 HK8 HS8 HW8 hcs
   go_wp2_with fail
   go_ret;obtain⟨u,h8,h9⟩:=qGQ HQ3.o HQ6.o Hsy.o Hk7.o HQ8.o;refine⟨u,z8,bd8,⟨_,_,rfl,HP9.o,fun x hx=> ?_⟩,h8,HS9.o,HK9.o⟩;obtain⟨y,h10,h11⟩:=h9 x hx;rw[<-h11,HG8.o y h10,Hn3.o,Hat.o]
  ·rw[Bool.not_eq_true]at hk6
   rw[hk6];have Hk6:=hZ hk6;clear hk6;have HP7:Hid (qAA 96 w7 (.slice (some ⟨w3.heap.size,0,none⟩) 1 1) [⟨n3,[],0⟩]):=hZ (qAA.of_own (base:=w3.heap.size) (by simpa using HW7.o))
   go_wp2_with fail
   go_ret;obtain⟨u,h8,h9⟩:=qGP HQ3.o HQ6.o Hsy.o Hk6.o;refine⟨u,z6,bd6,⟨_,_,rfl,HP7.o,fun x hx=> ?_⟩,h8,HS7.o,HK7.o⟩;rw[<-h9 x hx,Hn3.o,Hat.o]
end Go.Proofs.YtpmnbcdjoomgcaaGreatDoor
