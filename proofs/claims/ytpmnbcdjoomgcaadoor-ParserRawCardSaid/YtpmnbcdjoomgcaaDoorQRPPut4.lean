/- The printer's declaration: a line. -/
import Derived.Test.YtpmnbcdjoomgcaaDoorQRPPut2
import Derived.Deep.CutRange
import Derived.Deep.CutBlock
set_option linter.unusedVariables false
set_option linter.unusedSimpArgs false
set_option maxHeartbeats 4000000
set_option maxRecDepth 100000
namespace Go.Proofs.YtpmnbcdjoomgcaaDoor
open Go.RowKit
theorem DPt.pkp{B:Nat}{w w':World}{g o:Nat}{d:Dc}{y:Ls}(h:DPt w g o d y)(hg:g<B)(hk:PKp B w w'):DPt w' g o d y:=
 ⟨fun j v hv=>(hk.1.cell (p:=⟨g,o+j,none⟩) hg).trans (h.row j v hv),h.ls.kp hk.2 (by decide) (by decide) (by decide)⟩
theorem qAy(x:Fg):qEx x.word:=by cases x<;>exact⟨by decide,by decide,by decide⟩
structure PWk(B:Nat)(w0 w:World)(b g o:Nat)(d:Dc)(y:Ls)(t:Bs)(line:Bool):Prop where
 s:PSt B w b t line
 k:PKp B w0 w
 d:DPt w g o d y
 p:qBI w
 z:B<=w.heap.size
theorem PWk.call{B b g o:Nat}{w0 w w':World}{d:Dc}{y:Ls}{t t':Bs}{l l':Bool}(h:PWk B w0 w b g o d y t l)(hg:g<B)(hT:1<B)(hs:PSt B w' b t' l')(hk:PKp B w w'):PWk B w0 w' b g o d y t' l':=
 ⟨hs,h.k.trans hk,h.d.pkp hg hk,h.p.pkp hT hk,Nat.le_trans h.z hk.1.size⟩
theorem PWk.below{B b g o:Nat}{w0 w w':World}{d:Dc}{y:Ls}{t:Bs}{l:Bool}(h:PWk B w0 w b g o d y t l)(hg:g<B)(hT:1<B)(hb:Below w.heap.size w w'):PWk B w0 w' b g o d y t l:=
 h.call hg hT (h.s.below hb) (PKp.behind h.z hb)
theorem qBC(B b g o:Nat)(w0 w w':World)(d:Dc)(y:Ls)(t:Bs)(l:Bool)(ts:List Bs)(n:Nat)(h:PWk B w0 w b g o d y t l)(hg:g<B)(hT:1<B)(hn:ts.length=n)(hm:n<=1000)(hlen:t.length+(qAV l ts).length<=90000000)
 (hw:w.alloc (.cells (ts.map (fun s=>Value.string ⟨s.toArray⟩)).toArray 9)=w'):
 Calls Tryd.prog 59 #[.pointer (some ⟨b,0,none⟩),.slice (some ⟨w.heap.size,0,none⟩) n n] w' fun e w2=>e=.returned (.tuple #[])/\PWk B w0 w2 b g o d y (t++qAV l ts) (l|| !ts.isEmpty):=by
 have hst:qCx w' (.slice (some ⟨w.heap.size,0,none⟩) n n) ts:=by rw[<-hw];exact qCx.lit w ts n hn hm
 have hb:Below w.heap.size w w':=by rw[<-hw];exact qAa _ _
 have h':=h.below hg hT hb;refine(qCo B b t l _ ts w' h'.s hst hlen (by omega) h'.z).mono ?_;rintro e w2 ⟨rfl,hs,hk⟩;exact⟨rfl,h'.call hg hT hs hk⟩
theorem qG2(B b g o:Nat)(d:Dc)(y:Ls)(t:Bs)(w:World)(h:PWk B w w b g o d y t true)(hg:g<B)(hT:1<B)(hn:qAQ d.wear=true/\qAQ d.level=true)(hlen:t.length<=70000000):
 Calls Tryd.prog 60 #[.pointer (some ⟨b,0,none⟩),.pointer (some ⟨g,o,none⟩)] w fun e w'=>e=.returned (.tuple #[])/\PWk B w w' b g o d y (t++qDS qAr d.object++qDS qAL d.mixed++qDS qBl d.coin++qBf qBP d.wear++qBV d.bind++qBf qAm d.level) true:=by
 have HW:=hZ h;have HLn:Hid (t.length<=70000000):=hZ hlen;clear h hlen
 go_enter Tryd.func60,Tryd.ntmps60
 have hc:w.cell? ⟨g,o+3,none⟩=some (.bool d.object):=HW.o.d.row 3 _ rfl
 go_upto_if 7 with fail
 go_cut []from 2 (fun wc=>Hid (PWk B w wc b g o d y (t++qDS qAr d.object) true))
 case first=>
  have HPW:Hid (qAV true [qAr]=32::qAr):=hZ (by rw[qAd (s:=qAr) (qAy .object)];simp[qAV]);cases hb:d.object with
  |true=>
   obtain⟨wa,hwa⟩:=eX (w.alloc (.cells #[.string ⟨#[111,98,106,101,99,116]⟩] 9));have HCp:=hZ (qBC B b g o w w wa d y t true [qAr] 1 HW.o hg hT rfl (by omega) (by rw[HPW.o];have:=HLn.o;simp[qAr];omega) hwa);rw[hb]at hc
   go_wp2_with fail
   refine HCp.o.mono ?_;rintro e w9 ⟨rfl,h9⟩;rw[HPW.o]at h9;have H9:=hZ h9;clear h9 HCp hwa
   go_wp2_with fail
   go_meet
   case rel=>rw[hb];exact H9
  |false=>
   rw[hb]at hc
   go_wp2_with fail
   go_meet
   case rel=>rw[hb];exact hZ (by have:=HW.o;simpa[qDS]using this)
 case rest=>
  clear HW hc;obtain⟨w1,hwn⟩:∃W,W=wc:=⟨_,rfl⟩;subst hwn;have HW:=hcut;clear hcut;obtain⟨t1,ht1⟩:=eX (t++qDS qAr d.object);rw[ht1]at HW;have HL1:Hid (t1.length<=70000000+20):=hZ (by rw[<-ht1];have:=HLn.o;have:=qEe qAr d.object;simp[qAr]at this ⊢;omega);have HT1:=hZ ht1;clear ht1;have hc:w1.cell? ⟨g,o+4,none⟩=some (.bool d.mixed):=HW.o.d.row 4 _ rfl
  go_upto_if 14 with fail
  go_cut []from 2 (fun wc=>Hid (PWk B w wc b g o d y (t1++qDS qAL d.mixed) true))
  case first=>
   have HPW:Hid (qAV true [qAL]=32::qAL):=hZ (by rw[qAd (s:=qAL) (qAy .mixed)];simp[qAV]);cases hb:d.mixed with
   |true=>
    obtain⟨wa,hwa⟩:=eX (w1.alloc (.cells #[.string ⟨#[109,105,120,101,100]⟩] 9));have HCp:=hZ (qBC B b g o w w1 wa d y t1 true [qAL] 1 HW.o hg hT rfl (by omega) (by rw[HPW.o];have:=HL1.o;simp[qAL];omega) hwa);rw[hb]at hc
    go_wp2_with fail
    refine HCp.o.mono ?_;rintro e w9 ⟨rfl,h9⟩;rw[HPW.o]at h9;have H9:=hZ h9;clear h9 HCp hwa
    go_wp2_with fail
    go_meet
    case rel=>rw[hb];exact H9
   |false=>
    rw[hb]at hc
    go_wp2_with fail
    go_meet
    case rel=>rw[hb];exact hZ (by have:=HW.o;simpa[qDS]using this)
  case rest=>
   clear HW hc;obtain⟨w2,hwn⟩:∃W,W=wc:=⟨_,rfl⟩;subst hwn;have HW:=hcut;clear hcut;obtain⟨t2,ht2⟩:=eX (t1++qDS qAL d.mixed);rw[ht2]at HW;have HL2:Hid (t2.length<=70000000+40):=hZ (by rw[<-ht2];have:=HL1.o;have:=qEe qAL d.mixed;simp[qAL]at this ⊢;omega);have HT2:=hZ ht2;clear ht2;have hc:w2.cell? ⟨g,o+5,none⟩=some (.bool d.coin):=HW.o.d.row 5 _ rfl
   go_upto_if 21 with fail
   go_cut []from 2 (fun wc=>Hid (PWk B w wc b g o d y (t2++qDS qBl d.coin) true))
   case first=>
    have HPW:Hid (qAV true [qBl]=32::qBl):=hZ (by rw[qAd (s:=qBl) (qAy .coin)];simp[qAV]);cases hb:d.coin with
    |true=>
     obtain⟨wa,hwa⟩:=eX (w2.alloc (.cells #[.string ⟨#[99,111,105,110]⟩] 9));have HCp:=hZ (qBC B b g o w w2 wa d y t2 true [qBl] 1 HW.o hg hT rfl (by omega) (by rw[HPW.o];have:=HL2.o;simp[qBl];omega) hwa);rw[hb]at hc
     go_wp2_with fail
     refine HCp.o.mono ?_;rintro e w9 ⟨rfl,h9⟩;rw[HPW.o]at h9;have H9:=hZ h9;clear h9 HCp hwa
     go_wp2_with fail
     go_meet
     case rel=>rw[hb];exact H9
    |false=>
     rw[hb]at hc
     go_wp2_with fail
     go_meet
     case rel=>rw[hb];exact hZ (by have:=HW.o;simpa[qDS]using this)
   case rest=>
    clear HW hc;obtain⟨w3,hwn⟩:∃W,W=wc:=⟨_,rfl⟩;subst hwn;have HW:=hcut;clear hcut;obtain⟨t3,ht3⟩:=eX (t2++qDS qBl d.coin);rw[ht3]at HW;have HL3:Hid (t3.length<=70000000+60):=hZ (by rw[<-ht3];have:=HL2.o;have:=qEe qBl d.coin;simp[qBl]at this ⊢;omega);have HT3:=hZ ht3;clear ht3;have hc:w3.cell? ⟨g,o+6,none⟩=some (.int .i64 d.wear):=HW.o.d.row 6 _ rfl;have HCo:=hZ (qCb B b t3 qBP d.wear w3 HW.o.s (qAy .wear) (by decide) hn.1 (by have:=HL3.o;omega) HW.o.z HW.o.p)
    go_wp2_with fail
    refine HCo.o.mono ?_;rintro e w4 ⟨rfl,hs,hk⟩;have h9:=hZ (HW.o.call hg hT hs hk);clear HW hs hk HCo hc;have HW:=h9;clear h9;obtain⟨t4,ht4⟩:=eX (t3++qBf qBP d.wear);rw[ht4]at HW;have HL4:Hid (t4.length<=70000000+80):=hZ (by rw[<-ht4];have:=HL3.o;have:=qCG hn.1 qBP;simp[qBP]at this ⊢;omega);have HT4:=hZ ht4;clear ht4;have hc:w4.cell? ⟨g,o+7,none⟩=some (.int .i64 d.bind):=HW.o.d.row 7 _ rfl
    go_upto_block 0 with fail
    go_cut []from 2 (fun wc=>Hid (PWk B w wc b g o d y (t4++qBV d.bind) true))
    case first=>
     by_cases hb:d.bind=1
     ·obtain⟨wa,hwa⟩:=eX (w4.alloc (.cells #[.string ⟨#[98,105,110,100]⟩,.string ⟨#[103,101,116]⟩] 9))
      have HPW:Hid (qAV true [qCA,qGm]=qBV 1):=hZ (by decide);have HCp:=hZ (qBC B b g o w w4 wa d y t4 true [qCA,qGm] 2 HW.o hg hT rfl (by omega) (by rw[HPW.o];have:=HL4.o;have:=qCT 1;omega) hwa);rw[hb]at hc
      go_wp2_with fail
      refine HCp.o.mono ?_;rintro e w9 ⟨rfl,h9⟩;rw[HPW.o]at h9;have H9:=hZ h9;clear h9 HCp hwa
      go_wp2_with fail
      go_meet
      case rel=>rw[hb];exact H9
     ·by_cases hb2:d.bind=2
      ·have hb:=hb2
       obtain⟨wa,hwa⟩:=eX (w4.alloc (.cells #[.string ⟨#[98,105,110,100]⟩,.string ⟨#[117,115,101]⟩] 9));have HPW:Hid (qAV true [qCA,qFw]=qBV 2):=hZ (by decide);have HCp:=hZ (qBC B b g o w w4 wa d y t4 true [qCA,qFw] 2 HW.o hg hT rfl (by omega) (by rw[HPW.o];have:=HL4.o;have:=qCT 2;omega) hwa);rw[hb]at hc
       go_wp2_with fail
       refine HCp.o.mono ?_;rintro e w9 ⟨rfl,h9⟩;rw[HPW.o]at h9;have H9:=hZ h9;clear h9 HCp hwa
       go_wp2_with fail
       go_meet
       case rel=>rw[hb];exact H9
      ·have e1:(d.bind==1)=false:=by simpa using hb
       have e2:(d.bind==2)=false:=by simpa using hb2
       have HPW:Hid (qBV d.bind=[]):=hZ (by unfold qBV;rw[if_neg hb,if_neg hb2])
       go_wp2_with fail
       go_meet
       case rel=>rw[HPW.o];exact hZ (by have:=HW.o;simpa using this)
    case rest=>
     clear HW hc;obtain⟨w5,hwn⟩:∃W,W=wc:=⟨_,rfl⟩;subst hwn;have HW:=hcut;clear hcut;obtain⟨t5,ht5⟩:=eX (t4++qBV d.bind);rw[ht5]at HW;have HL5:Hid (t5.length<=70000000+100):=hZ (by rw[<-ht5];have:=HL4.o;have:=qCT d.bind;simp;omega);have HT5:=hZ ht5;clear ht5;have hc:w5.cell? ⟨g,o+8,none⟩=some (.int .i64 d.level):=HW.o.d.row 8 _ rfl;have HCo:=hZ (qCb B b t5 qAm d.level w5 HW.o.s (qAy .level) (by decide) hn.2 (by have:=HL5.o;omega) HW.o.z HW.o.p)
     go_wp2_with fail
     refine HCo.o.mono ?_;rintro e w6 ⟨rfl,hs,hk⟩;have h9:=hZ (HW.o.call hg hT hs hk);clear HW hs hk HCo hc;have HW:=h9;clear h9;obtain⟨t6,ht6⟩:=eX (t5++qBf qAm d.level);rw[ht6]at HW;have HL6:Hid (t6.length<=70000000+120):=hZ (by rw[<-ht6];have:=HL5.o;have:=qCG hn.2 qAm;simp[qAm]at this ⊢;omega);have HT6:=hZ ht6;clear ht6
     go_wp2_with fail
     go_end0
     exact⟨rfl,by rw[HT1.o,HT2.o,HT3.o,HT4.o,HT5.o,HT6.o];exact HW.o⟩
theorem qEP(B b g o:Nat)(d:Dc)(y:Ls)(t:Bs)(w:World)(h:PWk B w w b g o d y t true)(hg:g<B)(hT:1<B)(hn:qAQ d.level=true/\qAQ d.time=true/\qAQ d.chance=true/\qAQ d.of_=true)
 (hl:(okL d.take=true/\qA2 d.take=true)/\(okL d.give=true/\qA2 d.give=true)/\okL d.back=true/\qA2 d.back=true)(hD:DL 10000 d)(hsz:(qAM qBQ d.take).length<=1000000/\(qAM qCh d.give).length<=1000000/\(qAM qCm d.back).length<=1000000)(hlen:t.length<=70000000):
 Calls Tryd.prog 61 #[.pointer (some ⟨b,0,none⟩),.pointer (some ⟨g,o,none⟩)] w fun e w'=>e=.returned (.tuple #[])/\PWk B w w' b g o d y (t++qBf qAm d.level++qBf qBu d.time++qAN d.chance d.of_++qAM qBQ d.take++qAM qCh d.give++qAM qCm d.back) true:=by
 have HW:=hZ h;have HLn:Hid (t.length<=70000000):=hZ hlen;have HLs:=hZ hl;have HD:=hZ hD;have HSz:=hZ hsz;clear h hlen hl hD hsz
 go_enter Tryd.func61,Tryd.ntmps61
 have hc:w.cell? ⟨g,o+8,none⟩=some (.int .i64 d.level):=HW.o.d.row 8 _ rfl;have HCo:=hZ (qCb B b t qAm d.level w HW.o.s (qAy .level) (by decide) hn.1 (by have:=HLn.o;omega) HW.o.z HW.o.p)
 go_wp2_with fail
 refine HCo.o.mono ?_;rintro e w1 ⟨rfl,hs,hk⟩;have h9:=hZ (HW.o.call hg hT hs hk);clear HW hs hk HCo hc;have HW:=h9;clear h9;obtain⟨t1,ht1⟩:=eX (t++qBf qAm d.level);rw[ht1]at HW;have HL1:Hid (t1.length<=70000000+20):=hZ (by rw[<-ht1];have:=HLn.o;have:=qCG hn.1 qAm;simp[qAm]at this ⊢;omega);have HT1:=hZ ht1;clear ht1;have hc:w1.cell? ⟨g,o+9,none⟩=some (.int .i64 d.time):=HW.o.d.row 9 _ rfl;have HCo:=hZ (qCb B b t1 qBu d.time w1 HW.o.s (qAy .time) (by decide) hn.2.1 (by have:=HL1.o;omega) HW.o.z HW.o.p)
 go_wp2_with fail
 refine HCo.o.mono ?_;rintro e w2 ⟨rfl,hs,hk⟩;have h9:=hZ (HW.o.call hg hT hs hk);clear HW hs hk HCo hc;have HW:=h9;clear h9;obtain⟨t2,ht2⟩:=eX (t1++qBf qBu d.time);rw[ht2]at HW;have HL2:Hid (t2.length<=70000000+40):=hZ (by rw[<-ht2];have:=HL1.o;have:=qCG hn.2.1 qBu;simp[qBu]at this ⊢;omega);have HT2:=hZ ht2;clear ht2;have c10:w2.cell? ⟨g,o+10,none⟩=some (.int .i64 d.chance):=HW.o.d.row 10 _ rfl;have c11:w2.cell? ⟨g,o+11,none⟩=some (.int .i64 d.of_):=HW.o.d.row 11 _ rfl
 dsimp only
 go_step
 go_step
 go_step
 go_step
 go_step
 go_cut []from 2 (fun wc=>Hid (PWk B w wc b g o d y (t2++qAN d.chance d.of_) true))
 case first=>
  by_cases h1:d.chance=0
  ·have e1:(d.chance==0)=true:=by simpa using h1
   have e9:(d.chance != 0)=false:=by simpa using h1
   by_cases h2:d.of_=0
   ·have HPC:Hid (qAN d.chance d.of_=[]):=hZ (by unfold qAN;rw[if_pos ⟨h1,h2⟩])
    have e2:(d.of_==0)=true:=by simpa using h2
    have e3:(d.of_ != 0)=false:=by simpa using h2
    clear h1 h2
    go_wp2_with fail
    go_meet
    case rel=>rw[HPC.o];exact hZ (by have:=HW.o;simpa using this)
   ·have HPC:Hid (qAN d.chance d.of_=32::qAs++32::qAx d.chance++32::wOf++32::qAx d.of_):=hZ (by unfold qAN;rw[if_neg (fun h=>h2 h.2)])
    have e2:(d.of_==0)=false:=by simpa using h2
    have e3:(d.of_ != 0)=true:=by simpa using h2
    clear h1 h2;obtain⟨wd,hwd⟩:=eX w2.drew;have hBd:Below w2.heap.size w2 wd:=by rw[<-hwd];exact qAh _
    have HWd:=hZ (HW.o.below hg hT hBd);have HC1:=hZ (qAI d.chance wd hn.2.2.1 HWd.o.p);clear hBd
    go_wp2_with fail
    refine qAU [11,12] (fun W=>W.cell? ⟨g,o+10,none⟩=some (.int .i64 d.chance)/\W.cell? ⟨g,o+11,none⟩=some (.int .i64 d.of_)) (by kernel_rfl) (⟨c10,c11⟩) (fun hHeld=> ?_);rw[hwd]at hHeld ⊢;clear hwd;refine pU 0 28 ?_;refine pU 1 29 ?_;refine pU 2 30 ?_;refine pU 3 31 ?_;refine qAl 4 32 (v:= ?_) rfl rfl (by kernel_rfl) (by kernel_rfl) (by kernel_rfl) (by kernel_rfl) (by kernel_rfl) (fun _ _ _ h=>h) (by rfl) ?_ (by assumption) ?_;rotate_left
    ·(intro w hSw;go_simp;first|done|with_reducible rfl)
    simp only[sX1,sX2,sX3];refine pU 6 34 ?_;refine pU 7 35 ?_;refine pU 8 36 ?_;refine qAl 9 37 (v:= ?_) rfl rfl (by kernel_rfl) (by kernel_rfl) (by kernel_rfl) (by kernel_rfl) (by kernel_rfl) (fun _ _ _ h=>h) (by rfl) ?_ (by assumption) ?_;rotate_left
    ·(intro w hSw;go_simp;first|done|with_reducible rfl)
    simp only[sX1,sX2,sX3];refine eU 5 fun K hK=> ?_;go_simp;refine HC1.o.mono ?_;rintro e w11 ⟨rfl,hB11⟩;have HW11:=hZ (HWd.o.below hg hT hB11);have HC2:=hZ (qAI d.of_ w11 hn.2.2.2 HW11.o.p);have h11S:w11.cell? ⟨g,o+10,none⟩=some (.int .i64 d.chance)/\w11.cell? ⟨g,o+11,none⟩=some (.int .i64 d.of_):=⟨HW11.o.d.row 10 _ rfl,HW11.o.d.row 11 _ rfl⟩;clear hB11 HC1 HWd hHeld
    go_wp2_with fail
    refine hK.out _ _ (h11S) (fun hHeld=> ?_);clear hK K
    try simp only[Act.put,sX1,sX2,sX3]
    clear h11S;refine eU 10 fun K hK=> ?_;go_simp;refine HC2.o.mono ?_;rintro e w12 ⟨rfl,hB12⟩;have HW12:=hZ (HW11.o.below hg hT hB12);have h12S:w12.cell? ⟨g,o+10,none⟩=some (.int .i64 d.chance)/\w12.cell? ⟨g,o+11,none⟩=some (.int .i64 d.of_):=⟨HW12.o.d.row 10 _ rfl,HW12.o.d.row 11 _ rfl⟩;obtain⟨wa,hwa⟩:=eX (w12.alloc (.cells #[.string ⟨#[99,104,97,110,99,101]⟩,.string ⟨(qAx d.chance).toArray⟩,.string ⟨#[111,102]⟩,.string ⟨(qAx d.of_).toArray⟩] 9));have hnof:qEx wOf:=⟨by decide,by decide,by decide⟩;have HPW:Hid (qAV true [qAs,qAx d.chance,wOf,qAx d.of_]=32::qAs++32::qAx d.chance++32::wOf++32::qAx d.of_):=hZ (by rw[qAd (s:=qAs) (qAy .chance),qAd (qAq _),qAd hnof,qAd (qAq _)];simp[qAV]);have HCp:=hZ (qBC B b g o w w12 wa d y t2 true [qAs,qAx d.chance,wOf,qAx d.of_] 4 HW12.o hg hT rfl (by omega) (by rw[HPW.o];have:=HL2.o;have:=qAA hn.2.2.1;have:=qAA hn.2.2.2;simp[qAs,wOf];omega) hwa);clear hB12 HC2 HW11 hHeld hnof
    go_wp2_with fail
    refine hK.out _ _ (h12S) (fun hHeld=> ?_);clear hK K
    try simp only[Act.put,sX1,sX2,sX3]
    clear h12S;refine lU 11 fun K hK=> ?_;go_simp;refine hK.out _ _ ?_;clear hK K
    try simp only[Act.put,sX1,sX2,sX3]
    refine lU 12 fun K hK=> ?_;go_simp;clear hwa hHeld;refine HCp.o.mono ?_;rintro e w9 ⟨rfl,h9⟩;rw[HPW.o]at h9;have H9:=hZ h9;clear h9 HCp HW12 HPW
    go_wp2_with fail
    refine hK.out _ _ ?_;clear hK K
    try simp only[Act.put,sX1,sX2,sX3]
    refine dU ?_
    go_wp2_with fail
    go_meet
    case rel=>rw[HPC.o];exact H9
  ·have HPC:Hid (qAN d.chance d.of_=32::qAs++32::qAx d.chance++32::wOf++32::qAx d.of_):=hZ (by unfold qAN;rw[if_neg (fun h=>h1 h.1)])
   have e1:(d.chance==0)=false:=by simpa using h1
   have e3:(d.chance != 0)=true:=by simpa using h1
   clear h1;obtain⟨wd,hwd⟩:=eX w2.drew;have hBd:Below w2.heap.size w2 wd:=by rw[<-hwd];exact qAh _
   have HWd:=hZ (HW.o.below hg hT hBd);have HC1:=hZ (qAI d.chance wd hn.2.2.1 HWd.o.p);clear hBd
   go_wp2_with fail
   refine qAU [11,12] (fun W=>W.cell? ⟨g,o+10,none⟩=some (.int .i64 d.chance)/\W.cell? ⟨g,o+11,none⟩=some (.int .i64 d.of_)) (by kernel_rfl) (⟨c10,c11⟩) (fun hHeld=> ?_);rw[hwd]at hHeld ⊢;clear hwd;refine pU 0 28 ?_;refine pU 1 29 ?_;refine pU 2 30 ?_;refine pU 3 31 ?_;refine qAl 4 32 (v:= ?_) rfl rfl (by kernel_rfl) (by kernel_rfl) (by kernel_rfl) (by kernel_rfl) (by kernel_rfl) (fun _ _ _ h=>h) (by rfl) ?_ (by assumption) ?_;rotate_left
   ·(intro w hSw;go_simp;first|done|with_reducible rfl)
   simp only[sX1,sX2,sX3];refine pU 6 34 ?_;refine pU 7 35 ?_;refine pU 8 36 ?_;refine qAl 9 37 (v:= ?_) rfl rfl (by kernel_rfl) (by kernel_rfl) (by kernel_rfl) (by kernel_rfl) (by kernel_rfl) (fun _ _ _ h=>h) (by rfl) ?_ (by assumption) ?_;rotate_left
   ·(intro w hSw;go_simp;first|done|with_reducible rfl)
   simp only[sX1,sX2,sX3];refine eU 5 fun K hK=> ?_;go_simp;refine HC1.o.mono ?_;rintro e w11 ⟨rfl,hB11⟩;have HW11:=hZ (HWd.o.below hg hT hB11);have HC2:=hZ (qAI d.of_ w11 hn.2.2.2 HW11.o.p);have h11S:w11.cell? ⟨g,o+10,none⟩=some (.int .i64 d.chance)/\w11.cell? ⟨g,o+11,none⟩=some (.int .i64 d.of_):=⟨HW11.o.d.row 10 _ rfl,HW11.o.d.row 11 _ rfl⟩;clear hB11 HC1 HWd hHeld
   go_wp2_with fail
   refine hK.out _ _ (h11S) (fun hHeld=> ?_);clear hK K
   try simp only[Act.put,sX1,sX2,sX3]
   clear h11S;refine eU 10 fun K hK=> ?_;go_simp;refine HC2.o.mono ?_;rintro e w12 ⟨rfl,hB12⟩;have HW12:=hZ (HW11.o.below hg hT hB12);have h12S:w12.cell? ⟨g,o+10,none⟩=some (.int .i64 d.chance)/\w12.cell? ⟨g,o+11,none⟩=some (.int .i64 d.of_):=⟨HW12.o.d.row 10 _ rfl,HW12.o.d.row 11 _ rfl⟩;obtain⟨wa,hwa⟩:=eX (w12.alloc (.cells #[.string ⟨#[99,104,97,110,99,101]⟩,.string ⟨(qAx d.chance).toArray⟩,.string ⟨#[111,102]⟩,.string ⟨(qAx d.of_).toArray⟩] 9));have hnof:qEx wOf:=⟨by decide,by decide,by decide⟩;have HPW:Hid (qAV true [qAs,qAx d.chance,wOf,qAx d.of_]=32::qAs++32::qAx d.chance++32::wOf++32::qAx d.of_):=hZ (by rw[qAd (s:=qAs) (qAy .chance),qAd (qAq _),qAd hnof,qAd (qAq _)];simp[qAV]);have HCp:=hZ (qBC B b g o w w12 wa d y t2 true [qAs,qAx d.chance,wOf,qAx d.of_] 4 HW12.o hg hT rfl (by omega) (by rw[HPW.o];have:=HL2.o;have:=qAA hn.2.2.1;have:=qAA hn.2.2.2;simp[qAs,wOf];omega) hwa);clear hB12 HC2 HW11 hHeld hnof
   go_wp2_with fail
   refine hK.out _ _ (h12S) (fun hHeld=> ?_);clear hK K
   try simp only[Act.put,sX1,sX2,sX3]
   clear h12S;refine lU 11 fun K hK=> ?_;go_simp;refine hK.out _ _ ?_;clear hK K
   try simp only[Act.put,sX1,sX2,sX3]
   refine lU 12 fun K hK=> ?_;go_simp;clear hwa hHeld;refine HCp.o.mono ?_;rintro e w9 ⟨rfl,h9⟩;rw[HPW.o]at h9;have H9:=hZ h9;clear h9 HCp HW12 HPW
   go_wp2_with fail
   refine hK.out _ _ ?_;clear hK K
   try simp only[Act.put,sX1,sX2,sX3]
   refine dU ?_
   go_wp2_with fail
   go_meet
   case rel=>rw[HPC.o];exact H9
 case rest=>
  clear HW c10 c11;obtain⟨w3,hwn⟩:∃W,W=wc:=⟨_,rfl⟩;subst hwn;have HW:=hcut;clear hcut;obtain⟨t3,ht3⟩:=eX (t2++qAN d.chance d.of_);rw[ht3]at HW;have HL3:Hid (t3.length<=70000000+100):=hZ (by rw[<-ht3];have:=HL2.o;have:=qEM hn.2.2.1 hn.2.2.2;simp;omega);have HT3:=hZ ht3;clear ht3;have hc:w3.cell? ⟨g,o+12,none⟩=some y.t:=HW.o.d.row 12 _ rfl;have HCo:=hZ (qCS B b t3 qBQ y.t d.take w3 HW.o.s (qAy .take) (by decide) HW.o.d.ls.t HD.o.1 HLs.o.1.1 HLs.o.1.2 (by have:=HL3.o;have:=HSz.o.1;omega) HW.o.z HW.o.p hT)
  go_wp2_with fail
  refine HCo.o.mono ?_;rintro e w4 ⟨rfl,hs,hk⟩;have h9:=hZ (HW.o.call hg hT hs hk);clear HW hs hk HCo hc;have HW:=h9;clear h9;obtain⟨t4,ht4⟩:=eX (t3++qAM qBQ d.take);rw[ht4]at HW;have HL4:Hid (t4.length<=70000000+1000100):=hZ (by rw[<-ht4];have:=HL3.o;have:=HSz.o.1;simp;omega);have HT4:=hZ ht4;clear ht4;have hc:w4.cell? ⟨g,o+13,none⟩=some y.g:=HW.o.d.row 13 _ rfl;have HCo:=hZ (qCS B b t4 qCh y.g d.give w4 HW.o.s (qAy .give) (by decide) HW.o.d.ls.g HD.o.2.1 HLs.o.2.1.1 HLs.o.2.1.2 (by have:=HL4.o;have:=HSz.o.2.1;omega) HW.o.z HW.o.p hT)
  go_wp2_with fail
  refine HCo.o.mono ?_;rintro e w5 ⟨rfl,hs,hk⟩;have h9:=hZ (HW.o.call hg hT hs hk);clear HW hs hk HCo hc;have HW:=h9;clear h9;obtain⟨t5,ht5⟩:=eX (t4++qAM qCh d.give);rw[ht5]at HW;have HL5:Hid (t5.length<=70000000+2000100):=hZ (by rw[<-ht5];have:=HL4.o;have:=HSz.o.2.1;simp;omega);have HT5:=hZ ht5;clear ht5;have hc:w5.cell? ⟨g,o+14,none⟩=some y.b:=HW.o.d.row 14 _ rfl;have HCo:=hZ (qCS B b t5 qCm y.b d.back w5 HW.o.s (qAy .back) (by decide) HW.o.d.ls.b HD.o.2.2.1 HLs.o.2.2.1 HLs.o.2.2.2 (by have:=HL5.o;have:=HSz.o.2.2;omega) HW.o.z HW.o.p hT)
  go_wp2_with fail
  refine HCo.o.mono ?_;rintro e w6 ⟨rfl,hs,hk⟩;have h9:=hZ (HW.o.call hg hT hs hk);clear HW hs hk HCo hc;have HW:=h9;clear h9;obtain⟨t6,ht6⟩:=eX (t5++qAM qCm d.back);rw[ht6]at HW;have HL6:Hid (t6.length<=70000000+3000100):=hZ (by rw[<-ht6];have:=HL5.o;have:=HSz.o.2.2;simp;omega);have HT6:=hZ ht6;clear ht6
  go_wp2_with fail
  go_end0
  exact⟨rfl,by rw[HT1.o,HT2.o,HT3.o,HT4.o,HT5.o,HT6.o];exact HW.o⟩
theorem qB8(B b g o:Nat)(w0 w w':World)(d:Dc)(y:Ls)(t:Bs)(l:Bool)(ts:List Bs)(n:Nat)(h:PWk B w0 w b g o d y t l)(hg:g<B)(hT:1<B)(hn:ts.length=n)(hm:n<=1000)(hlen:t.length+(qAV l ts).length<=90000000)
 (hw:w.alloc (.cells (ts.map (fun s=>Value.string ⟨s.toArray⟩)).toArray 9)=w'):
 Calls Tryd.prog 59 #[.pointer (some ⟨b,0,none⟩),.slice (some ⟨w.heap.size,0,none⟩) n n] w' fun e w2=>e=.returned (.tuple #[])/\PWk B w0 w2 b g o d y (t++qAV l ts) (l|| !ts.isEmpty)/\KpX PX w w2:=by
 have hst:qCx w' (.slice (some ⟨w.heap.size,0,none⟩) n n) ts:=by rw[<-hw];exact qCx.lit w ts n hn hm
 have hb:Below w.heap.size w w':=by rw[<-hw];exact qAa _ _
 have h':=h.below hg hT hb;refine(qCo B b t l _ ts w' h'.s hst hlen (by omega) h'.z).mono ?_;rintro e w2 ⟨rfl,hs,hk⟩;exact⟨rfl,h'.call hg hT hs hk,(KpX.of_below (X:=PX) hb).trans hk.2⟩
theorem qGy(l:List Bs):qJp l 0=l.flatten:=by simp[qJp]
theorem qFa(l:List (List Pr))(k:Nat)(hk:k<l.length):qAK (decide (0<k)) (l.drop k)=(if 0<k then [32,43]else [])++(32::qAx (qIL l[k])++(58::prL false l[k].tail))++qAK true (l.drop (k+1)):=by
 rw[List.drop_eq_getElem_cons hk,qAK];by_cases h:0<k<;>simp[h]
theorem qF6(l:List (Int×Int))(k:Nat)(hk:k<l.length):qCp (decide (0<k)) (l.drop k)=(if 0<k then [44]else [])++32::qAx l[k].1++58::32::qAx l[k].2++qCp true (l.drop (k+1)):=by
 rw[List.drop_eq_getElem_cons hk,qCp];by_cases h:0<k<;>simp[h]
theorem qC2{d:Dc}(h:qBJ d=true):(d.kind=3->d.brs=[])/\(d.kind=4->d.rows=[]):=by
 unfold qBJ at h;refine⟨fun hk=> ?_,fun hk=> ?_⟩
 ·rw[if_neg (by omega),if_neg (by omega),if_pos hk]at h
  simp only[Bool.and_eq_true,List.isEmpty_iff]at h;exact h.1.1.2
 ·rw[if_neg (by omega),if_neg (by omega),if_neg (by omega),if_pos hk]at h
  simp only[Bool.and_eq_true,List.isEmpty_iff]at h;exact h.1.2
theorem qF5(B b g o:Nat)(d:Dc)(y:Ls)(t:Bs)(w:World)(h:PWk B w w b g o d y t false)(hg:g<B)(hT:1<B)(he:qG7 d=0)(hD:DL 10000 d)(hsz:(qDs d 0).length<=1000000)(hlen:t.length<=60000000):
 Calls Tryd.prog 30 #[.pointer (some ⟨b,0,none⟩),.pointer (some ⟨g,o,none⟩)] w fun e w'=>e=.returned (.tuple #[])/\PWk B w w' b g o d y (t++qDs d 0) false:=by
 obtain⟨hs,hnm,hrg⟩:=qD2 he;obtain⟨hk0,hk4⟩:=qIF hs;obtain⟨hns,hls,hrs,hbs⟩:=qIf hrg;have hnmd:=hnm;unfold qFj at hnmd;simp only[Bool.and_eq_true,List.all_eq_true]at hnmd;obtain⟨⟨hn0,⟨hnt,hng⟩,hnb⟩,hnr⟩:=hnmd;obtain⟨kn,hkn⟩:∃k:Nat,d.kind=(k:Int):=⟨d.kind.toNat,by omega⟩;have hk5:kn<5:=by omega
 obtain⟨kw,hkw⟩:=eX (qAf.getD kn []);have hkl:kw.length<=5:=by
  rw[<-hkw];have:∀i:Fin 5,(qAf.getD i.1 []).length<=5:=by decide
  exact this ⟨kn,hk5⟩
 have hline:qDs d 0=kw++32::d.name++(qAW d).flatten++[59,10]:=by
  unfold qDs;rw[qGy,hkn,Int.toNat_natCast,hkw]
 rw[hline]at hsz ⊢;simp only[List.length_append,List.length_cons,List.length_nil]at hsz;have HW:=hZ h;have HN0:=hZ hn0;have HNs:=hZ hns;have HLs:Hid ((okL d.take=true/\qA2 d.take=true)/\(okL d.give=true/\qA2 d.give=true)/\okL d.back=true/\qA2 d.back=true):=hZ ⟨⟨hls.1,hnt⟩,⟨hls.2.1,hng⟩,hls.2.2,hnb⟩;have HRs:=hZ hrs;have HRn:=hZ hnr;have HRo:=hZ (qEd hs);have HBs:=hZ hbs;have HS:=hZ hs;have HD:=hZ hD;have HKn:=hZ hkn;have HSz:=hZ hsz;have c0:w.cell? ⟨g,o,none⟩=some (.int .i64 (kn:Int)):=by have:=h.d.row 0 _ rfl;rw[<-hkn];exact this
 obtain⟨bw,hbw⟩:=eX w.heap.size;obtain⟨w1,hw1⟩:=eX (w.alloc (.cells #[.string ⟨#[105,116,101,109]⟩,.string ⟨#[114,117,108,101]⟩,.string ⟨#[115,112,97,119,110]⟩,.string ⟨#[108,111,111,116]⟩,.string ⟨#[116,97,120]⟩] 114));have hB1:Below w.heap.size w w1:=by rw[<-hw1];exact qAa _ _
 have hblk:qAT w1 bw 114 (qAf.map sv8):=by rw[<-hw1,<-hbw];exact qAT.new _ _ _
 have cw:w1.cell? ⟨bw,kn,none⟩=some (.string ⟨kw.toArray⟩):=by
  rw[hblk.cell kn,<-hkw];have:kn=0\/kn=1\/kn=2\/kn=3\/kn=4:=by omega
  rcases this with rfl|rfl|rfl|rfl|rfl<;>rfl
 have h1:=h.below hg hT hB1;have c0:w1.cell? ⟨g,o,none⟩=some (.int .i64 (kn:Int)):=by have:=h1.d.row 0 _ rfl;rw[<-hkn];exact this
 have c1:w1.cell? ⟨g,o+1,none⟩=some (.string ⟨d.name.toArray⟩):=h1.d.row 1 _ rfl;have hz1:bw<w1.heap.size:=hblk.lt;obtain⟨wd,hwd⟩:=eX w1.drew;have hBd:Below w1.heap.size w1 wd:=by rw[<-hwd];exact qAh _
 have HWd:=hZ (h1.below hg hT hBd);obtain⟨wa,hwa⟩:=eX (wd.alloc (.cells #[.string ⟨kw.toArray⟩,.string ⟨d.name.toArray⟩] 9));have HPW:Hid (qAV false [kw,d.name]=kw++32::d.name):=hZ (by
  rw[qAV,qAd (qCV HN0.o)];simp[qAV])
 have HCp:=hZ (qBC B b g o w wd wa d y t false [kw,d.name] 2 HWd.o hg hT rfl (by omega) (by rw[HPW.o];simp;omega) hwa);have hi0:(0:Int)<=(kn:Int):=by omega
 have hi5:(kn:Int)<5:=by omega
 clear h hs hnm hrg hns hls hrs hbs hn0 hnt hng hnb hnr hD hkn hkw hline hsz hB1 h1 hBd hblk he HW
 go_enter Tryd.func30,Tryd.ntmps30
 go_wp2_with fail
 clear hw1 hbw;refine qAU [11,12] (fun W=>W.cell? ⟨g,o,none⟩=some (.int .i64 (kn:Int))/\W.cell? ⟨g,o+1,none⟩=some (.string ⟨d.name.toArray⟩)/\W.cell? ⟨bw,kn,none⟩=some (.string ⟨kw.toArray⟩)) (by kernel_rfl) (⟨c0,c1,cw⟩) (fun hHeld=> ?_);rw[hwd]at hHeld ⊢;clear hwd c0 c1 cw;refine pU 0 10 ?_;refine pU 1 11 ?_;refine pU 2 12 ?_;refine pU 3 13 ?_;refine qAl 4 14 (v:= ?_) rfl rfl (by kernel_rfl) (by kernel_rfl) (by kernel_rfl) (by kernel_rfl) (by kernel_rfl) (fun _ _ _ h=>h) (by rfl) ?_ (by assumption) ?_;rotate_left
 ·(intro w hSw;go_simp;first|done|with_reducible rfl)
 simp only[sX1,sX2,sX3];refine pU 5 15 ?_;refine qAl 6 16 (v:= ?_) rfl rfl (by kernel_rfl) (by kernel_rfl) (by kernel_rfl) (by kernel_rfl) (by kernel_rfl) (fun _ _ _ h=>h) (by rfl) ?_ (by assumption) ?_;rotate_left
 ·(intro w hSw;go_simp;first|done|with_reducible rfl)
 simp only[sX1,sX2,sX3];refine pU 7 17 ?_;refine pU 8 18 ?_;refine pU 9 19 ?_;refine qAl 10 20 (v:= ?_) rfl rfl (by kernel_rfl) (by kernel_rfl) (by kernel_rfl) (by kernel_rfl) (by kernel_rfl) (fun _ _ _ h=>h) (by rfl) ?_ (by assumption) ?_;rotate_left
 ·(intro w hSw;go_simp;first|done|with_reducible rfl)
 simp only[sX1,sX2,sX3];clear hHeld;refine lU 11 fun K hK=> ?_;go_simp;refine hK.out _ _ ?_;clear hK K
 try simp only[Act.put,sX1,sX2,sX3]
 refine lU 12 fun K hK=> ?_;go_simp;clear hwa;refine HCp.o.mono ?_;rintro e w2 ⟨rfl,h2⟩;rw[HPW.o]at h2;have HW:=hZ h2;clear h2 HCp HPW HWd
 go_wp2_with fail
 refine hK.out _ _ ?_;clear hK K
 try simp only[Act.put,sX1,sX2,sX3]
 refine dU ?_;obtain⟨t1,ht1⟩:=eX (t++(kw++32::d.name));have hl1:t1.length<=61000100:=by rw[<-ht1];have:=HSz.o;simp;omega
 rw[ht1]at HW;have HT1:=hZ ht1;have c0:w2.cell? ⟨g,o,none⟩=some (.int .i64 (kn:Int)):=by have:=HW.o.d.row 0 _ rfl;rw[<-HKn.o];exact this
 have HPt:Hid ((qAW d).flatten.length<=1000000):=hZ (by have:=HSz.o;omega);clear ht1 hz1
 go_upto_block 0 with fail
 go_cut []from 9 (fun wc=>Hid (PWk B w wc b g o d y (t1++(qAW d).flatten) true))
 case first=>
  have h5:kn=0\/kn=1\/kn=2\/kn=3\/kn=4:=by omega
  rcases h5 with rfl|rfl|rfl|hkk|hkk
  ·have HC:=hZ (qG2 B b g o d y t1 w2 ⟨HW.o.s,PKp.refl _ _,HW.o.d,HW.o.p,HW.o.z⟩ hg hT ⟨HNs.o.1,HNs.o.2.1⟩ (by omega))
   have HP:Hid (t1++(qAW d).flatten=t1++qDS qAr d.object++qDS qAL d.mixed++qDS qBl d.coin++qBf qBP d.wear++qBV d.bind++qBf qAm d.level):=hZ (by unfold qAW;rw[if_pos (show d.kind=0 from HKn.o)];simp)
   go_wp2_with fail
   refine HC.o.mono ?_;rintro e w3 ⟨rfl,h3⟩;rw[<-HP.o]at h3;have H3:Hid (PWk B w w3 b g o d y (t1++(qAW d).flatten) true):=hZ ⟨h3.s,HW.o.k.trans h3.k,h3.d,h3.p,h3.z⟩;clear h3 HC HP
   go_wp2_with fail
   go_meet
   case rel=>exact H3
  ·have HC:=hZ (qEP B b g o d y t1 w2 ⟨HW.o.s,PKp.refl _ _,HW.o.d,HW.o.p,HW.o.z⟩ hg hT ⟨HNs.o.2.1,HNs.o.2.2.1,HNs.o.2.2.2.1,HNs.o.2.2.2.2⟩ HLs.o HD.o (by have:=HPt.o;unfold qAW at this;rw[if_neg (by rw[HKn.o];decide),if_pos (by rw[HKn.o];decide)]at this;simp at this;omega) (by omega))
   have HP:Hid (t1++(qAW d).flatten=t1++qBf qAm d.level++qBf qBu d.time++qAN d.chance d.of_++qAM qBQ d.take++qAM qCh d.give++qAM qCm d.back):=hZ (by unfold qAW;rw[if_neg (by rw[HKn.o];decide),if_pos (by rw[HKn.o];decide)];simp)
   go_wp2_with fail
   refine HC.o.mono ?_;rintro e w3 ⟨rfl,h3⟩;rw[<-HP.o]at h3;have H3:Hid (PWk B w w3 b g o d y (t1++(qAW d).flatten) true):=hZ ⟨h3.s,HW.o.k.trans h3.k,h3.d,h3.p,h3.z⟩;clear h3 HC HP
   go_wp2_with fail
   go_meet
   case rel=>exact H3
  ·have HC:=hZ (qEP B b g o d y t1 w2 ⟨HW.o.s,PKp.refl _ _,HW.o.d,HW.o.p,HW.o.z⟩ hg hT ⟨HNs.o.2.1,HNs.o.2.2.1,HNs.o.2.2.2.1,HNs.o.2.2.2.2⟩ HLs.o HD.o (by have:=HPt.o;unfold qAW at this;rw[if_neg (by rw[HKn.o];decide),if_pos (by rw[HKn.o];decide)]at this;simp at this;omega) (by omega))
   have HP:Hid (t1++(qAW d).flatten=t1++qBf qAm d.level++qBf qBu d.time++qAN d.chance d.of_++qAM qBQ d.take++qAM qCh d.give++qAM qCm d.back):=hZ (by unfold qAW;rw[if_neg (by rw[HKn.o];decide),if_pos (by rw[HKn.o];decide)];simp)
   go_wp2_with fail
   refine HC.o.mono ?_;rintro e w3 ⟨rfl,h3⟩;rw[<-HP.o]at h3;have H3:Hid (PWk B w w3 b g o d y (t1++(qAW d).flatten) true):=hZ ⟨h3.s,HW.o.k.trans h3.k,h3.d,h3.p,h3.z⟩;clear h3 HC HP
   go_wp2_with fail
   go_meet
   case rel=>exact H3
  ·have HKd:Hid (d.kind=3):=hZ (by rw[HKn.o,hkk];rfl)
   have e0:((kn:Int)==0)=false:=by rw[hkk];decide
   have n0:(kn==0)=false:=by rw[hkk];decide
   have m0:¬kn=0:=by omega
   have e1:((kn:Int)==1)=false:=by rw[hkk];decide
   have n1:(kn==1)=false:=by rw[hkk];decide
   have m1:¬kn=1:=by omega
   have e2:((kn:Int)==2)=false:=by rw[hkk];decide
   have n2:(kn==2)=false:=by rw[hkk];decide
   have m2:¬kn=2:=by omega
   have e3:((kn:Int)==3)=true:=by rw[hkk];decide
   have n3:(kn==3)=true:=by rw[hkk];decide
   clear hkk;have hbr:=(qC2 HS.o).1 HKd.o;have HP:Hid ((qAW d).flatten=qAK false d.rows):=hZ (by unfold qAW;rw[if_neg (by rw[HKd.o];decide),if_neg (by rw[HKd.o];decide),hbr];simp[qCp]);have HPt2:Hid (t1.length+(qAK false d.rows).length<=62000100):=hZ (by have:=HPt.o;rw[HP.o]at this;omega);obtain⟨r1,r2,hyr, -,-⟩:=TSl.form HW.o.d.ls.r;obtain⟨rn,hrn⟩:=eX d.rows.length;have c15:w2.cell? ⟨g,o+15,none⟩=some (.slice r1 rn r2):=by have:=HW.o.d.row 15 _ rfl;rw[this,hyr,hrn]
   have hrm:rn<=10000:=by have:=HD.o.2.2.2.1;omega
   have Hrn:=hZ hrn;have Hyr:Hid (y.r=.slice r1 rn r2):=hZ (by rw[hyr,hrn]);clear hrn hyr hbr
   go_wp2_with fail
   clear c15 c0
   go_loopw [45] (fun iv wr=>∃(j:Nat) (t':Bs),j<=rn/\iv=.int .i64 j/\Hid (t1++qAK false d.rows=t'++qAK (decide (0<j)) (d.rows.drop j))/\Hid (PWk B w wr b g o d y t' true)) (fun iv _=>rn-(intOf iv).toNat)
   case atStart=>exact⟨0,t1,by omega,rfl,hZ rfl,HW⟩
   case round=>
    clear HW;obtain⟨j,t',hj,rfl,HE,HW⟩:=hrel;by_cases hlt:j<rn
    ·have h1:j<d.rows.length:=by have:=Hrn.o;omega
     obtain⟨gr,o2,cpr,csr,ur,hv,hbr,hur0,hpr⟩:=qBe.nthB HW.o.d.ls.r j h1;have hru:=HRo.o _ (List.getElem_mem h1);have hrl:=HD.o.2.2.2.2.2 _ (List.getElem_mem h1);have hrm2:=HRn.o _ (List.getElem_mem h1);have hrk2:=HRs.o _ (List.getElem_mem h1);have hE:=HE.o;rw[qFa _ j h1]at hE;rw[Hyr.o]at hv;injection hv with hv hq1 hv2;have q3:wr.cell? ⟨gr,o2+j,none⟩=some ur:=by rw[cell_of_row _ gr (o2+j) _ _ _ hbr];exact hur0
     obtain⟨rr,hr⟩:=eX (d.rows[j]);rw[hr]at hru hpr hrl hrm2 hrk2 hE;cases rr with
     |nil=>cases hru
     |cons p r=>
      obtain⟨a9,c9,rfl,hc9,hc99⟩:=TSl.form hpr;obtain⟨gp,op,rfl,htl⟩:=TSl.tail hpr;have HTl:=hZ htl;have HPR:=hZ hpr;have HNr:Hid (qA2 r=true):=hZ hrm2;have hok2:qAQ p.n=true/\okL r=true:=by
       unfold okL at hrk2;rw[List.all_cons,Bool.and_eq_true]at hrk2;exact hrk2
      have HOp:=hZ hok2.1;have HOr:=hZ hok2.2;have HEE:Hid (t1++qAK false d.rows=t'++(if 0<j then [32,43]else [])++(32::qAx p.n++[58])++prL false r++qAK true (d.rows.drop (j+1))):=hZ (by rw[hE];simp[qIL]);have hbd:t'.length<=62000100:=by
       have h8:=congrArg List.length hE;have h9:=HPt2.o;simp only[List.length_append]at h8;omega
      have hl9:(p::r).length=r.length+1:=rfl;rw[hl9]at q3 hc9 HTl HPR;simp only[List.length_cons]at hrl;obtain⟨m,hm⟩:=eX r.length;rw[hm]at q3 hrl hc9 HTl HPR;have Hm:=hZ hm;have hn0:(0:Int)<=(j:Int):=by omega
      have hn2:(j:Int)<(rn:Int):=by omega
      have hp5:(0:Int)<((m+1:Nat):Int):=by omega
      subst hv;clear hru hpr hr hq1 hv2 h1 hbr hur0 hl9 hrm2 hrk2 hm htl hE HE hok2;by_cases hj0:0<j
      ·have hj1:(0:Int)<(j:Int):=by omega
       obtain⟨wp,hwp⟩:=eX (wr.alloc (.cells #[.string ⟨#[43]⟩] 9));have HPP:Hid (qAV true [[43]]=[32,43]):=hZ (by decide);have HCp:=hZ (qB8 B b g o w wr wp d y t' true [[43]] 1 HW.o hg hT rfl (by omega) (by rw[HPP.o];simp;omega) hwp)
       go_wp2_with fail
       clear q3;refine HCp.o.mono ?_;rintro e wA ⟨rfl,hA,hKA⟩;rw[HPP.o]at hA;have HWA:=hZ hA;have HKA:=hZ hKA;have HEF:Hid (t1++qAK false d.rows=(t'++[32,43])++(32::qAx p.n++[58])++prL false r++qAK true (d.rows.drop (j+1))):=hZ (by rw[HEE.o,if_pos hj0]);clear hA hKA HCp HPP HW hwp HEE;have hpz:=qAF.nth (HPR.o.kp HKA.o (by decide)) 0 (by simp);obtain⟨gq,oq,cq,hv,y0, -,-⟩:=hpz;injection hv with hv hqa hqb;injection hv with hv;injection hv with e1 e2;subst e1 e2;clear hqa hqb;have y0:wA.cell? ⟨gp,op,none⟩=some (.int .i64 p.n):=by simpa using y0
       have HCi:=hZ (qAI p.n wA HOp.o HWA.o.p)
       go_wp2_with fail
       refine HCi.o.mono ?_;rintro e wB ⟨rfl,hB⟩;have HWB:=hZ (HWA.o.below hg hT hB);have HKB:=hZ (HKA.o.trans (KpX.of_below (X:=PX) hB));obtain⟨wa,hwa⟩:=eX (wB.alloc (.cells #[.string ⟨(qAx p.n).toArray⟩,.string ⟨#[58]⟩] 9));have HPW:Hid (qAV true [qAx p.n,[58]]=32::qAx p.n++[58]):=hZ (by rw[qAd (qAq _)];simp[qAV]);have HCp:=hZ (qB8 B b g o w wB wa d y (t'++[32,43]) true [qAx p.n,[58]] 2 HWB.o hg hT rfl (by omega) (by rw[HPW.o];have:=qAA HOp.o;simp;omega) hwa);clear hB HCi y0 HWA HKA
       go_wp2_with fail
       refine HCp.o.mono ?_;rintro e wC ⟨rfl,hC,hKC⟩;rw[HPW.o]at hC;have HWC:=hZ hC;have HKC:=hZ (HKB.o.trans hKC);clear hC hKC HCp HPW HWB HKB hwa;by_cases hc1:c9=1
       ·obtain rfl:m=0:=by omega
        subst hc1;have hr0:r=[]:=List.eq_nil_of_length_eq_zero Hm.o;have HEG:Hid (t1++qAK false d.rows=((t'++[32,43])++(32::qAx p.n++[58]))++prL false []++qAK true (d.rows.drop (j+1))):=hZ (by rw[HEF.o,hr0]);clear hr0
        go_wp2_with fail
        refine(qBn B b _ _ [] wC HWC.o.s (TSl.nil _ _ (by omega)) (by simp) rfl rfl (by have:=qAA HOp.o;simp[prL];omega) HWC.o.z HWC.o.p hT).mono ?_;rintro e wD ⟨rfl,hs,hk⟩;have HWD:=hZ (HWC.o.call hg hT hs hk);clear hs hk
        go_wp2_with fail
        exact⟨⟨j+1,_,by omega,by go_num,HEG,HWD⟩,by simp[intOf];omega⟩
       ·have hc2:1<c9:=by omega
        have HTl:=hZ (HTl.o (some ⟨gp,op+3,none⟩) (fun _=>rfl));rw[show m+1-1=m by omega]at HTl;have HEG:Hid (t1++qAK false d.rows=((t'++[32,43])++(32::qAx p.n++[58]))++prL false r++qAK true (d.rows.drop (j+1))):=HEF;have HPr9:Hid (qAF 68 wC (.slice (some ⟨gp,op+3,none⟩) m (c9-1)) r):=hZ (qAF.kp HTl.o HKC.o (by decide));have HCq:=hZ (qBn B b ((t'++[32,43])++(32::qAx p.n++[58])) _ r wC HWC.o.s HPr9.o (by have:=Hm.o;omega) HOr.o HNr.o (by have:=congrArg List.length HEG.o;simp only[List.length_append]at this ⊢;have:=HPt2.o;omega) HWC.o.z HWC.o.p hT)
        go_wp2_with fail
        refine HCq.o.mono ?_;rintro e wD ⟨rfl,hs,hk⟩;have HWD:=hZ (HWC.o.call hg hT hs hk);clear hs hk HCq
        go_wp2_with fail
        exact⟨⟨j+1,_,by omega,by go_num,HEG,HWD⟩,by simp[intOf];omega⟩
      ·have hj1:¬(0:Int)<(j:Int):=by omega
       have HEF:Hid (t1++qAK false d.rows=t'++(32::qAx p.n++[58])++prL false r++qAK true (d.rows.drop (j+1))):=hZ (by rw[HEE.o,if_neg hj0];simp);have HKA:Hid (KpX PX wr wr):=hZ (KpX.refl _ _);clear HEE;have hpz:=qAF.nth (HPR.o.kp HKA.o (by decide)) 0 (by simp);obtain⟨gq,oq,cq,hv,y0, -,-⟩:=hpz;injection hv with hv hqa hqb;injection hv with hv;injection hv with e1 e2;subst e1 e2;clear hqa hqb;have y0:wr.cell? ⟨gp,op,none⟩=some (.int .i64 p.n):=by simpa using y0
       have HCi:=hZ (qAI p.n wr HOp.o HW.o.p)
       go_wp2_with fail
       clear q3;refine HCi.o.mono ?_;rintro e wB ⟨rfl,hB⟩;have HWB:=hZ (HW.o.below hg hT hB);have HKB:=hZ (HKA.o.trans (KpX.of_below (X:=PX) hB));obtain⟨wa,hwa⟩:=eX (wB.alloc (.cells #[.string ⟨(qAx p.n).toArray⟩,.string ⟨#[58]⟩] 9));have HPW:Hid (qAV true [qAx p.n,[58]]=32::qAx p.n++[58]):=hZ (by rw[qAd (qAq _)];simp[qAV]);have HCp:=hZ (qB8 B b g o w wB wa d y t' true [qAx p.n,[58]] 2 HWB.o hg hT rfl (by omega) (by rw[HPW.o];have:=qAA HOp.o;simp;omega) hwa);clear hB HCi y0 HW HKA
       go_wp2_with fail
       refine HCp.o.mono ?_;rintro e wC ⟨rfl,hC,hKC⟩;rw[HPW.o]at hC;have HWC:=hZ hC;have HKC:=hZ (HKB.o.trans hKC);clear hC hKC HCp HPW HWB HKB hwa;by_cases hc1:c9=1
       ·obtain rfl:m=0:=by omega
        subst hc1;have hr0:r=[]:=List.eq_nil_of_length_eq_zero Hm.o;have HEG:Hid (t1++qAK false d.rows=(t'++(32::qAx p.n++[58]))++prL false []++qAK true (d.rows.drop (j+1))):=hZ (by rw[HEF.o,hr0]);clear hr0
        go_wp2_with fail
        refine(qBn B b _ _ [] wC HWC.o.s (TSl.nil _ _ (by omega)) (by simp) rfl rfl (by have:=qAA HOp.o;simp[prL];omega) HWC.o.z HWC.o.p hT).mono ?_;rintro e wD ⟨rfl,hs,hk⟩;have HWD:=hZ (HWC.o.call hg hT hs hk);clear hs hk
        go_wp2_with fail
        exact⟨⟨j+1,_,by omega,by go_num,HEG,HWD⟩,by simp[intOf];omega⟩
       ·have hc2:1<c9:=by omega
        have HTl:=hZ (HTl.o (some ⟨gp,op+3,none⟩) (fun _=>rfl));rw[show m+1-1=m by omega]at HTl;have HEG:Hid (t1++qAK false d.rows=(t'++(32::qAx p.n++[58]))++prL false r++qAK true (d.rows.drop (j+1))):=HEF;have HPr9:Hid (qAF 68 wC (.slice (some ⟨gp,op+3,none⟩) m (c9-1)) r):=hZ (qAF.kp HTl.o HKC.o (by decide));have HCq:=hZ (qBn B b (t'++(32::qAx p.n++[58])) _ r wC HWC.o.s HPr9.o (by have:=Hm.o;omega) HOr.o HNr.o (by have:=congrArg List.length HEG.o;simp only[List.length_append]at this ⊢;have:=HPt2.o;omega) HWC.o.z HWC.o.p hT)
        go_wp2_with fail
        refine HCq.o.mono ?_;rintro e wD ⟨rfl,hs,hk⟩;have HWD:=hZ (HWC.o.call hg hT hs hk);clear hs hk HCq
        go_wp2_with fail
        exact⟨⟨j+1,_,by omega,by go_num,HEG,HWD⟩,by simp[intOf];omega⟩
    ·have hn2:¬(j:Int)<(rn:Int):=by omega
     have H3:Hid (PWk B w wr b g o d y (t1++(qAW d).flatten) true):=hZ (by
      have h9:=HE.o;rw[List.drop_of_length_le (by have:=Hrn.o;omega)]at h9;rw[HP.o,h9];simpa[qAK]using HW.o)
     clear HE HW
     go_wp2_with fail
     go_meet
     case rel=>exact H3
  ·have HKd:Hid (d.kind=4):=hZ (by rw[HKn.o,hkk];rfl)
   have e0:((kn:Int)==0)=false:=by rw[hkk];decide
   have n0:(kn==0)=false:=by rw[hkk];decide
   have m0:¬kn=0:=by omega
   have e1:((kn:Int)==1)=false:=by rw[hkk];decide
   have n1:(kn==1)=false:=by rw[hkk];decide
   have m1:¬kn=1:=by omega
   have e2:((kn:Int)==2)=false:=by rw[hkk];decide
   have n2:(kn==2)=false:=by rw[hkk];decide
   have m2:¬kn=2:=by omega
   have e3:((kn:Int)==3)=false:=by rw[hkk];decide
   have n3:(kn==3)=false:=by rw[hkk];decide
   have m3:¬kn=3:=by omega
   have e4:((kn:Int)==4)=true:=by rw[hkk];decide
   have n4:(kn==4)=true:=by rw[hkk];decide
   clear hkk;have hro:=(qC2 HS.o).2 HKd.o;have HP:Hid ((qAW d).flatten=qCp false d.brs):=hZ (by unfold qAW;rw[if_neg (by rw[HKd.o];decide),if_neg (by rw[HKd.o];decide),hro];simp[qAK]);have HPt2:Hid (t1.length+(qCp false d.brs).length<=62000100):=hZ (by have:=HPt.o;rw[HP.o]at this;omega);obtain⟨x1,x2,hyx, -,-⟩:=TSl.form HW.o.d.ls.x;obtain⟨xn,hxn⟩:=eX d.brs.length;have c16:w2.cell? ⟨g,o+16,none⟩=some (.slice x1 xn x2):=by have:=HW.o.d.row 16 _ rfl;rw[this,hyx,hxn]
   have hxm:xn<=10000:=by have:=HD.o.2.2.2.2.1;omega
   have Hxn:=hZ hxn;have Hyx:Hid (y.x=.slice x1 xn x2):=hZ (by rw[hyx,hxn]);clear hxn hyx hro
   go_wp2_with fail
   clear c16 c0
   go_loopw [75] (fun iv wr=>∃(k:Nat) (t':Bs),k<=xn/\iv=.int .i64 k/\Hid (t1++qCp false d.brs=t'++qCp (decide (0<k)) (d.brs.drop k))/\Hid (PWk B w wr b g o d y t' true)) (fun iv _=>xn-(intOf iv).toNat)
   case atStart=>exact⟨0,t1,by omega,rfl,hZ rfl,HW⟩
   case round=>
    clear HW;obtain⟨k,t',hk,rfl,HE,HW⟩:=hrel;by_cases hlt:k<xn
    ·have h1:k<d.brs.length:=by have:=Hxn.o;omega
     have hX:=HW.o.d.ls.x;rw[Hyx.o]at hX;obtain⟨gp,op,cp,hv,y0,y1⟩:=qDE.nth hX k h1;injection hv with hv hq1 hv2;subst hv hv2;have hok:=HBs.o _ (List.getElem_mem h1);have hE:=HE.o;rw[qF6 _ k h1]at hE;obtain⟨p,hp⟩:=eX (d.brs[k]);rw[hp]at y0 y1 hok hE;have HOp:=hZ hok;have HEE:=hZ hE;have hbd:t'.length<=62000100:=by
      have h8:=congrArg List.length hE;have h9:=HPt2.o;simp only[List.length_append]at h8;omega
     obtain⟨bx,hbx⟩:=eX wr.heap.size;obtain⟨w5,hw5⟩:=eX (wr.alloc (.cells #[.int .i64 p.1,.int .i64 p.2] 76));have hB5:Below wr.heap.size wr w5:=by rw[<-hw5];exact qAa _ _
     have HX5:Hid (qAT w5 bx 76 [.int .i64 p.1,.int .i64 p.2]):=hZ (by rw[<-hw5,<-hbx];exact qAT.new _ _ _);have HW5:=hZ (HW.o.below hg hT hB5);have hn0:(0:Int)<=(k:Int):=by omega
     have hn1:(k:Int)<(xn:Int):=by omega
     clear hok hp hq1 h1 hE HE hX hB5 HW;by_cases hk0:0<k
     ·have hk1:(0:Int)<(k:Int):=by omega
      obtain⟨wp,hwp⟩:=eX (w5.alloc (.cells #[.string ⟨#[44]⟩] 9));have HPP:Hid (qAV true [[44]]=[44]):=hZ (by decide);have HCp:=hZ (qB8 B b g o w w5 wp d y t' true [[44]] 1 HW5.o hg hT rfl (by omega) (by rw[HPP.o];simp;omega) hwp)
      go_wp2_with fail
      clear y0 y1 hw5 hbx;refine HCp.o.mono ?_;rintro e wA ⟨rfl,hA,hKA⟩;rw[HPP.o]at hA;have HWA:=hZ hA;have HXA:Hid (qAT wA bx 76 [.int .i64 p.1,.int .i64 p.2]):=hZ (hKA _ _ _ (by decide) HX5.o);have HEF:Hid (t1++qCp false d.brs=((t'++[44])++(32::qAx p.1++58::32::qAx p.2))++qCp true (d.brs.drop (k+1))):=hZ (by rw[HEE.o,if_pos hk0];simp);clear hA hKA HCp HPP HX5 HW5 hwp HEE;obtain⟨wd,hwd⟩:=eX wA.drew;have hBd:Below wA.heap.size wA wd:=by rw[<-hwd];exact qAh _
      have HWd:=hZ (HWA.o.below hg hT hBd);have HXd:=hZ (HXA.o.below hBd HXA.o.lt);have HC1:=hZ (qAI p.1 wd HOp.o.1 HWd.o.p);have x0:wA.cell? ⟨bx,0,none⟩=some (.int .i64 p.1):=HXA.o.cell 0;have x1:wA.cell? ⟨bx,1,none⟩=some (.int .i64 p.2):=HXA.o.cell 1;clear hBd HWA HXA
      go_wp2_with fail
      refine qAU [7,8] (fun W=>W.cell? ⟨bx,0,none⟩=some (.int .i64 p.1)/\W.cell? ⟨bx,1,none⟩=some (.int .i64 p.2)) (by kernel_rfl) (⟨x0,x1⟩) (fun hHeld=> ?_);rw[hwd]at hHeld ⊢;clear hwd x0 x1;refine pU 0 85 ?_;refine pU 1 86 ?_;refine qAl 2 87 (v:= ?_) rfl rfl (by kernel_rfl) (by kernel_rfl) (by kernel_rfl) (by kernel_rfl) (by kernel_rfl) (fun _ _ _ h=>h) (by rfl) ?_ (by assumption) ?_;rotate_left
      ·(intro w hSw;go_simp;first|done|with_reducible rfl)
      simp only[sX1,sX2,sX3];refine pU 4 89 ?_;refine qAl 5 90 (v:= ?_) rfl rfl (by kernel_rfl) (by kernel_rfl) (by kernel_rfl) (by kernel_rfl) (by kernel_rfl) (fun _ _ _ h=>h) (by rfl) ?_ (by assumption) ?_;rotate_left
      ·(intro w hSw;go_simp;first|done|with_reducible rfl)
      simp only[sX1,sX2,sX3];refine eU 3 fun K hK=> ?_;go_simp;refine HC1.o.mono ?_;rintro e w11 ⟨rfl,hB11⟩;have HW11:=hZ (HWd.o.below hg hT hB11);have HX11:=hZ (HXd.o.below hB11 HXd.o.lt);have HC2:=hZ (qAI p.2 w11 HOp.o.2 HW11.o.p);have h11S:w11.cell? ⟨bx,0,none⟩=some (.int .i64 p.1)/\w11.cell? ⟨bx,1,none⟩=some (.int .i64 p.2):=⟨HX11.o.cell 0,HX11.o.cell 1⟩;clear hB11 HC1 HWd HXd hHeld
      go_wp2_with fail
      refine hK.out _ _ (h11S) (fun hHeld=> ?_);clear hK K
      try simp only[Act.put,sX1,sX2,sX3]
      clear h11S;refine eU 6 fun K hK=> ?_;go_simp;refine HC2.o.mono ?_;rintro e w12 ⟨rfl,hB12⟩;have HW12:=hZ (HW11.o.below hg hT hB12);have HX12:=hZ (HX11.o.below hB12 HX11.o.lt);have h12S:w12.cell? ⟨bx,0,none⟩=some (.int .i64 p.1)/\w12.cell? ⟨bx,1,none⟩=some (.int .i64 p.2):=⟨HX12.o.cell 0,HX12.o.cell 1⟩;obtain⟨wa,hwa⟩:=eX (w12.alloc (.cells #[.string ⟨(qAx p.1).toArray⟩,.string ⟨#[58]⟩,.string ⟨(qAx p.2).toArray⟩] 9));have HPW:Hid (qAV true [qAx p.1,[58],qAx p.2]=32::qAx p.1++58::32::qAx p.2):=hZ (by rw[qAd (qAq _),qAV,qAd (qAq _)];simp[qAV]);have HCp:=hZ (qB8 B b g o w w12 wa d y (t'++[44]) true [qAx p.1,[58],qAx p.2] 3 HW12.o hg hT rfl (by omega) (by rw[HPW.o];have:=qAA HOp.o.1;have:=qAA HOp.o.2;simp;omega) hwa);clear hB12 HC2 HW11 HX11 HX12 hHeld
      go_wp2_with fail
      refine hK.out _ _ (h12S) (fun hHeld=> ?_);clear hK K
      try simp only[Act.put,sX1,sX2,sX3]
      clear h12S;refine lU 7 fun K hK=> ?_;go_simp;refine hK.out _ _ ?_;clear hK K
      try simp only[Act.put,sX1,sX2,sX3]
      refine lU 8 fun K hK=> ?_;go_simp;clear hwa hHeld;refine HCp.o.mono ?_;rintro e w9 ⟨rfl,h9,-⟩;rw[HPW.o]at h9;have H9:=hZ h9;clear h9 HCp HW12 HPW
      go_wp2_with fail
      refine hK.out _ _ ?_;clear hK K
      try simp only[Act.put,sX1,sX2,sX3]
      refine dU ?_
      go_wp2_with fail
      exact⟨⟨k+1,_,by omega,by go_num,HEF,H9⟩,by simp[intOf];omega⟩
     ·have hk1:¬(0:Int)<(k:Int):=by omega
      have HEF:Hid (t1++qCp false d.brs=(t'++(32::qAx p.1++58::32::qAx p.2))++qCp true (d.brs.drop (k+1))):=hZ (by rw[HEE.o,if_neg hk0];simp);clear HEE;obtain⟨wd,hwd⟩:=eX w5.drew;have hBd:Below w5.heap.size w5 wd:=by rw[<-hwd];exact qAh _
      have HWd:=hZ (HW5.o.below hg hT hBd);have HXd:=hZ (HX5.o.below hBd HX5.o.lt);have HC1:=hZ (qAI p.1 wd HOp.o.1 HWd.o.p);have x0:w5.cell? ⟨bx,0,none⟩=some (.int .i64 p.1):=HX5.o.cell 0;have x1:w5.cell? ⟨bx,1,none⟩=some (.int .i64 p.2):=HX5.o.cell 1;clear hBd HW5 HX5
      go_wp2_with fail
      clear y0 y1 hw5 hbx;refine qAU [7,8] (fun W=>W.cell? ⟨bx,0,none⟩=some (.int .i64 p.1)/\W.cell? ⟨bx,1,none⟩=some (.int .i64 p.2)) (by kernel_rfl) (⟨x0,x1⟩) (fun hHeld=> ?_);rw[hwd]at hHeld ⊢;clear hwd x0 x1;refine pU 0 85 ?_;refine pU 1 86 ?_;refine qAl 2 87 (v:= ?_) rfl rfl (by kernel_rfl) (by kernel_rfl) (by kernel_rfl) (by kernel_rfl) (by kernel_rfl) (fun _ _ _ h=>h) (by rfl) ?_ (by assumption) ?_;rotate_left
      ·(intro w hSw;go_simp;first|done|with_reducible rfl)
      simp only[sX1,sX2,sX3];refine pU 4 89 ?_;refine qAl 5 90 (v:= ?_) rfl rfl (by kernel_rfl) (by kernel_rfl) (by kernel_rfl) (by kernel_rfl) (by kernel_rfl) (fun _ _ _ h=>h) (by rfl) ?_ (by assumption) ?_;rotate_left
      ·(intro w hSw;go_simp;first|done|with_reducible rfl)
      simp only[sX1,sX2,sX3];refine eU 3 fun K hK=> ?_;go_simp;refine HC1.o.mono ?_;rintro e w11 ⟨rfl,hB11⟩;have HW11:=hZ (HWd.o.below hg hT hB11);have HX11:=hZ (HXd.o.below hB11 HXd.o.lt);have HC2:=hZ (qAI p.2 w11 HOp.o.2 HW11.o.p);have h11S:w11.cell? ⟨bx,0,none⟩=some (.int .i64 p.1)/\w11.cell? ⟨bx,1,none⟩=some (.int .i64 p.2):=⟨HX11.o.cell 0,HX11.o.cell 1⟩;clear hB11 HC1 HWd HXd hHeld
      go_wp2_with fail
      refine hK.out _ _ (h11S) (fun hHeld=> ?_);clear hK K
      try simp only[Act.put,sX1,sX2,sX3]
      clear h11S;refine eU 6 fun K hK=> ?_;go_simp;refine HC2.o.mono ?_;rintro e w12 ⟨rfl,hB12⟩;have HW12:=hZ (HW11.o.below hg hT hB12);have HX12:=hZ (HX11.o.below hB12 HX11.o.lt);have h12S:w12.cell? ⟨bx,0,none⟩=some (.int .i64 p.1)/\w12.cell? ⟨bx,1,none⟩=some (.int .i64 p.2):=⟨HX12.o.cell 0,HX12.o.cell 1⟩;obtain⟨wa,hwa⟩:=eX (w12.alloc (.cells #[.string ⟨(qAx p.1).toArray⟩,.string ⟨#[58]⟩,.string ⟨(qAx p.2).toArray⟩] 9));have HPW:Hid (qAV true [qAx p.1,[58],qAx p.2]=32::qAx p.1++58::32::qAx p.2):=hZ (by rw[qAd (qAq _),qAV,qAd (qAq _)];simp[qAV]);have HCp:=hZ (qB8 B b g o w w12 wa d y t' true [qAx p.1,[58],qAx p.2] 3 HW12.o hg hT rfl (by omega) (by rw[HPW.o];have:=qAA HOp.o.1;have:=qAA HOp.o.2;simp;omega) hwa);clear hB12 HC2 HW11 HX11 HX12 hHeld
      go_wp2_with fail
      refine hK.out _ _ (h12S) (fun hHeld=> ?_);clear hK K
      try simp only[Act.put,sX1,sX2,sX3]
      clear h12S;refine lU 7 fun K hK=> ?_;go_simp;refine hK.out _ _ ?_;clear hK K
      try simp only[Act.put,sX1,sX2,sX3]
      refine lU 8 fun K hK=> ?_;go_simp;clear hwa hHeld;refine HCp.o.mono ?_;rintro e w9 ⟨rfl,h9,-⟩;rw[HPW.o]at h9;have H9:=hZ h9;clear h9 HCp HW12 HPW
      go_wp2_with fail
      refine hK.out _ _ ?_;clear hK K
      try simp only[Act.put,sX1,sX2,sX3]
      refine dU ?_
      go_wp2_with fail
      exact⟨⟨k+1,_,by omega,by go_num,HEF,H9⟩,by simp[intOf];omega⟩
    ·have hn2:¬(k:Int)<(xn:Int):=by omega
     have H3:Hid (PWk B w wr b g o d y (t1++(qAW d).flatten) true):=hZ (by
      have h9:=HE.o;rw[List.drop_of_length_le (by have:=Hxn.o;omega)]at h9;rw[HP.o,h9];simpa[qCp]using HW.o)
     clear HE HW
     go_wp2_with fail
     go_meet
     case rel=>exact H3
 case rest=>
  clear HW c0;obtain⟨w3,hwn⟩:∃W,W=wc:=⟨_,rfl⟩;subst hwn;have HW:=hcut;clear hcut;obtain⟨t2,ht2⟩:=eX (t1++(qAW d).flatten);have hl2:t2.length<=62000100:=by rw[<-ht2];have:=HPt.o;simp only[List.length_append];omega
  rw[ht2]at HW;have HT2:=hZ ht2;obtain⟨wb,hwb⟩:=eX (w3.alloc (.cells #[.string ⟨#[59]⟩] 9));have HCp:=hZ (qBC B b g o w w3 wb d y t2 true [[59]] 1 HW.o hg hT rfl (by omega) (by simp[qAV];omega) hwb);clear ht2
  go_wp2_with fail
  refine HCp.o.mono ?_;rintro e w4 ⟨rfl,h4⟩;have H4:Hid (PWk B w w4 b g o d y (t2++[59]) true):=hZ (by simpa[qAV]using h4);have HC4:=hZ (qEO B b (t2++[59]) true 10 w4 H4.o.s (by simp;omega) H4.o.z);clear h4 HCp HW hwb
  go_wp2_with fail
  refine HC4.o.mono ?_;rintro e w5 ⟨rfl,hs5,hk5'⟩;obtain⟨c6,f6⟩:=hs5.cell2;have hq:=hs5.line false;have h5:=H4.o.call hg hT hs5 hk5';have h6:=h5.call hg hT hq.1 hq.2;obtain⟨w6,hw6⟩:=eX (w5.setCell ⟨b,2,none⟩ (.bool false));rw[hw6]at h6;have H6:=hZ h6;clear hs5 hk5' hq h5 h6 HC4 H4
  go_wp2_with fail
  go_end0
  exact⟨rfl,by have:=H6.o;rw[<-HT2.o,<-HT1.o]at this;simpa using this⟩
end Go.Proofs.YtpmnbcdjoomgcaaDoor
