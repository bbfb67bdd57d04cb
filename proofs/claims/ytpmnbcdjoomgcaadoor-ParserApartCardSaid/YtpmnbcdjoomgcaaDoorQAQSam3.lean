/- The reference's comparison of declarations: what sameDecl and Same answer of declarations that are the same. -/
import Derived.Test.YtpmnbcdjoomgcaaDoorQAQSame
import Derived.Laws.Rows
import Derived.Test.YtpmnbcdjoomgcaaDoorQAPOpts
set_option linter.unusedVariables false
set_option linter.unusedSimpArgs false
set_option maxHeartbeats 4000000
set_option maxRecDepth 100000
namespace Go.Proofs.YtpmnbcdjoomgcaaDoor
open Go.RowKit
theorem qAc(w:World):Below w.heap.size w w.drew:=(Below.refl _ _).drew
def smR(off:Bool)(a b:List (List Pr)):Prop:=a.length=b.length/\∀j (h1:j<a.length) (h2:j<b.length),smP off a[j] b[j]
theorem qAU.nth{e et:TypeId}{w:World}{v:Value}{l:List (List Pr)}(h:qAU e et w v l)(i:Nat)(hi:i<l.length):∃g off cap u,v=.slice (some ⟨g,off,none⟩) l.length cap/\w.cell? ⟨g,off+i,none⟩=some u/\qAD e w u l[i]:=by
 obtain⟨g,off,cap,es,hv,h1,h2,h3,⟨u,rfl,hu⟩, -,hc⟩:=TSl.at_ h i hi;exact⟨g,off,cap,u,hv,by simpa using hc 0 (by omega),hu⟩
theorem qCA.nth{w:World}{v:Value}{l:List (Int×Int)}(h:qCA w v l)(i:Nat)(hi:i<l.length):∃g off cap,v=.slice (some ⟨g,off,none⟩) l.length cap/\w.cell? ⟨g,off+i*2,none⟩=some (.int .i64 l[i].1)/\w.cell? ⟨g,off+i*2+1,none⟩=some (.int .i64 l[i].2):=by
 obtain⟨g,off,cap,es,hv,h1,h2,h3,rfl, -,hc⟩:=TSl.at_ h i hi;exact⟨g,off,cap,hv,hc 0 (by omega),hc 1 (by omega)⟩
theorem qFu(off:Bool)(k:Int)(nm:ByteArray)(a a9:Int)(o m c:Bool)(we bi le ti ch f:Int)(t1 t3 g1 g3 b1 b3 r1 r3 x1 x3:Option Addr)(tn t2 t4 gn g2 g4 bn b2 b4 rn r2 r4 xn x2 x4:Nat)
 (tl tl' gl gl' bl bl':List Pr)(rl rl':List (List Pr))(xl:List (Int×Int))(w:World)(ha:off=true->a9=a)
 (ht:qAD 74 w (.slice t1 tn t2) tl)(ht':qAD 74 w (.slice t3 tn t4) tl')(hts:smP off tl tl')
 (hg:qAD 74 w (.slice g1 gn g2) gl)(hg':qAD 74 w (.slice g3 gn g4) gl')(hgs:smP off gl gl')
 (hb:qAD 74 w (.slice b1 bn b2) bl)(hb':qAD 74 w (.slice b3 bn b4) bl')(hbs:smP off bl bl')
 (hr:qAU 74 30 w (.slice r1 rn r2) rl)(hr':qAU 74 30 w (.slice r3 rn r4) rl')(hrs:smR off rl rl')
 (hx:qCA w (.slice x1 xn x2) xl)(hx':qCA w (.slice x3 xn x4) xl)
 (hln:tl.length<=1000000/\gl.length<=1000000/\bl.length<=1000000/\rl.length<=1000000/\xl.length<=1000000/\∀r∈rl,r.length<=1000000):
 Calls Tryd.prog 48 #[.agg #[.int .i64 k,.string nm,.int .i64 a,.bool o,.bool m,.bool c,.int .i64 we,.int .i64 bi,.int .i64 le,.int .i64 ti,.int .i64 ch,.int .i64 f,.slice t1 tn t2,.slice g1 gn g2,.slice b1 bn b2,.slice r1 rn r2,.slice x1 xn x2],.agg #[.int .i64 k,.string nm,.int .i64 a9,.bool o,.bool m,.bool c,.int .i64 we,.int .i64 bi,.int .i64 le,.int .i64 ti,.int .i64 ch,.int .i64 f,.slice t3 tn t4,.slice g3 gn g4,.slice b3 bn b4,.slice r3 rn r4,.slice x3 xn x4],.bool off] w fun e w'=>e=.returned (.bool true)/\Below w.heap.size w w':=by
 obtain⟨w2,hw2⟩:=eX ((w.alloc (.cells #[.int .i64 k,.string nm,.int .i64 a,.bool o,.bool m,.bool c,.int .i64 we,.int .i64 bi,.int .i64 le,.int .i64 ti,.int .i64 ch,.int .i64 f,.slice t1 tn t2,.slice g1 gn g2,.slice b1 bn b2,.slice r1 rn r2,.slice x1 xn x2] 34)).alloc (.cells #[.int .i64 k,.string nm,.int .i64 a9,.bool o,.bool m,.bool c,.int .i64 we,.int .i64 bi,.int .i64 le,.int .i64 ti,.int .i64 ch,.int .i64 f,.slice t3 tn t4,.slice g3 gn g4,.slice b3 bn b4,.slice r3 rn r4,.slice x3 xn x4] 34));have hB:Below w.heap.size w w2:=by rw[<-hw2];exact qC9 _ _ _
 have e1:w2.heap[w.heap.size]? =some (.cells #[.int .i64 k,.string nm,.int .i64 a,.bool o,.bool m,.bool c,.int .i64 we,.int .i64 bi,.int .i64 le,.int .i64 ti,.int .i64 ch,.int .i64 f,.slice t1 tn t2,.slice g1 gn g2,.slice b1 bn b2,.slice r1 rn r2,.slice x1 xn x2] 34 (0,0)):=by rw[<-hw2];exact((qAa _ _).block _ (by simp)).trans (heap_alloc_new w _)
 have e2:w2.heap[w.heap.size+1]? =some (.cells #[.int .i64 k,.string nm,.int .i64 a9,.bool o,.bool m,.bool c,.int .i64 we,.int .i64 bi,.int .i64 le,.int .i64 ti,.int .i64 ch,.int .i64 f,.slice t3 tn t4,.slice g3 gn g4,.slice b3 bn b4,.slice r3 rn r4,.slice x3 xn x4] 34 (0,0)):=by rw[<-hw2];exact(by simpa using heap_alloc_new (w.alloc (.cells #[.int .i64 k,.string nm,.int .i64 a,.bool o,.bool m,.bool c,.int .i64 we,.int .i64 bi,.int .i64 le,.int .i64 ti,.int .i64 ch,.int .i64 f,.slice t1 tn t2,.slice g1 gn g2,.slice b1 bn b2,.slice r1 rn r2,.slice x1 xn x2] 34)) (.cells #[.int .i64 k,.string nm,.int .i64 a9,.bool o,.bool m,.bool c,.int .i64 we,.int .i64 bi,.int .i64 le,.int .i64 ti,.int .i64 ch,.int .i64 f,.slice t3 tn t4,.slice g3 gn g4,.slice b3 bn b4,.slice r3 rn r4,.slice x3 xn x4] 34))
 have HE1:=hZ e1;have HE2:=hZ e2;have hz2:w.heap.size+1<w2.heap.size:=by rw[<-hw2];simp
 have c0:w2.cell? ⟨w.heap.size,0,none⟩=some (.int .i64 k):=by rw[Lib.cell_of_heap e1];rfl
 have c1:w2.cell? ⟨w.heap.size,1,none⟩=some (.string nm):=by rw[Lib.cell_of_heap e1];rfl
 have c2:w2.cell? ⟨w.heap.size,2,none⟩=some (.int .i64 a):=by rw[Lib.cell_of_heap e1];rfl
 have c3:w2.cell? ⟨w.heap.size,3,none⟩=some (.bool o):=by rw[Lib.cell_of_heap e1];rfl
 have c4:w2.cell? ⟨w.heap.size,4,none⟩=some (.bool m):=by rw[Lib.cell_of_heap e1];rfl
 have c5:w2.cell? ⟨w.heap.size,5,none⟩=some (.bool c):=by rw[Lib.cell_of_heap e1];rfl
 have c6:w2.cell? ⟨w.heap.size,6,none⟩=some (.int .i64 we):=by rw[Lib.cell_of_heap e1];rfl
 have c7:w2.cell? ⟨w.heap.size,7,none⟩=some (.int .i64 bi):=by rw[Lib.cell_of_heap e1];rfl
 have c8:w2.cell? ⟨w.heap.size,8,none⟩=some (.int .i64 le):=by rw[Lib.cell_of_heap e1];rfl
 have c9:w2.cell? ⟨w.heap.size,9,none⟩=some (.int .i64 ti):=by rw[Lib.cell_of_heap e1];rfl
 have c10:w2.cell? ⟨w.heap.size,10,none⟩=some (.int .i64 ch):=by rw[Lib.cell_of_heap e1];rfl
 have c11:w2.cell? ⟨w.heap.size,11,none⟩=some (.int .i64 f):=by rw[Lib.cell_of_heap e1];rfl
 have c12:w2.cell? ⟨w.heap.size,12,none⟩=some (.slice t1 tn t2):=by rw[Lib.cell_of_heap e1];rfl
 have c13:w2.cell? ⟨w.heap.size,13,none⟩=some (.slice g1 gn g2):=by rw[Lib.cell_of_heap e1];rfl
 have c14:w2.cell? ⟨w.heap.size,14,none⟩=some (.slice b1 bn b2):=by rw[Lib.cell_of_heap e1];rfl
 have c15:w2.cell? ⟨w.heap.size,15,none⟩=some (.slice r1 rn r2):=by rw[Lib.cell_of_heap e1];rfl
 have c16:w2.cell? ⟨w.heap.size,16,none⟩=some (.slice x1 xn x2):=by rw[Lib.cell_of_heap e1];rfl
 have d0:w2.cell? ⟨w.heap.size+1,0,none⟩=some (.int .i64 k):=by rw[Lib.cell_of_heap e2];rfl
 have d1:w2.cell? ⟨w.heap.size+1,1,none⟩=some (.string nm):=by rw[Lib.cell_of_heap e2];rfl
 have d2:w2.cell? ⟨w.heap.size+1,2,none⟩=some (.int .i64 a9):=by rw[Lib.cell_of_heap e2];rfl
 have d3:w2.cell? ⟨w.heap.size+1,3,none⟩=some (.bool o):=by rw[Lib.cell_of_heap e2];rfl
 have d4:w2.cell? ⟨w.heap.size+1,4,none⟩=some (.bool m):=by rw[Lib.cell_of_heap e2];rfl
 have d5:w2.cell? ⟨w.heap.size+1,5,none⟩=some (.bool c):=by rw[Lib.cell_of_heap e2];rfl
 have d6:w2.cell? ⟨w.heap.size+1,6,none⟩=some (.int .i64 we):=by rw[Lib.cell_of_heap e2];rfl
 have d7:w2.cell? ⟨w.heap.size+1,7,none⟩=some (.int .i64 bi):=by rw[Lib.cell_of_heap e2];rfl
 have d8:w2.cell? ⟨w.heap.size+1,8,none⟩=some (.int .i64 le):=by rw[Lib.cell_of_heap e2];rfl
 have d9:w2.cell? ⟨w.heap.size+1,9,none⟩=some (.int .i64 ti):=by rw[Lib.cell_of_heap e2];rfl
 have d10:w2.cell? ⟨w.heap.size+1,10,none⟩=some (.int .i64 ch):=by rw[Lib.cell_of_heap e2];rfl
 have d11:w2.cell? ⟨w.heap.size+1,11,none⟩=some (.int .i64 f):=by rw[Lib.cell_of_heap e2];rfl
 have d12:w2.cell? ⟨w.heap.size+1,12,none⟩=some (.slice t3 tn t4):=by rw[Lib.cell_of_heap e2];rfl
 have d13:w2.cell? ⟨w.heap.size+1,13,none⟩=some (.slice g3 gn g4):=by rw[Lib.cell_of_heap e2];rfl
 have d14:w2.cell? ⟨w.heap.size+1,14,none⟩=some (.slice b3 bn b4):=by rw[Lib.cell_of_heap e2];rfl
 have d15:w2.cell? ⟨w.heap.size+1,15,none⟩=some (.slice r3 rn r4):=by rw[Lib.cell_of_heap e2];rfl
 have d16:w2.cell? ⟨w.heap.size+1,16,none⟩=some (.slice x3 xn x4):=by rw[Lib.cell_of_heap e2];rfl
 have hk:=KpX.of_below (X:=[]) hB;have HT:=hZ (ht.kp hk (by simp));have HT':=hZ (ht'.kp hk (by simp));have HG:=hZ (hg.kp hk (by simp));have HG':=hZ (hg'.kp hk (by simp));have HB1:=hZ (hb.kp hk (by simp));have HB1':=hZ (hb'.kp hk (by simp));have HR:=hZ (hr.kp hk (by simp) (by simp));have HR':=hZ (hr'.kp hk (by simp) (by simp));have HX:=hZ (hx.kp hk (by simp));have HX':=hZ (hx'.kp hk (by simp));have hrn:rn=rl.length:=by
  obtain⟨_,_,e,-⟩:=hr.form;injection e
 have hxn:xn=xl.length:=by
  obtain⟨_,_,e,-⟩:=hx.form;injection e
 have HTs:=hZ hts;have HGs:=hZ hgs;have HBs:=hZ hbs;have HRs:=hZ hrs;have HL:=hZ hln;have HRn:=hZ hrn;have HXn:=hZ hxn;have HBw:=hZ hB;have hrm:rn<=1000000:=by omega
 have hxm:xn<=1000000:=by omega
 have HCT:=hZ (fun w' (h':Below w2.heap.size w2 w')=>(qA9 off _ _ tl tl' w' (HT.o.kp (KpX.of_below (X:=[]) h') (by simp)) (HT'.o.kp (KpX.of_below (X:=[]) h') (by simp)) hln.1 hts));have HCG:=hZ (fun w' (h':Below w2.heap.size w2 w')=>(qA9 off _ _ gl gl' w' (HG.o.kp (KpX.of_below (X:=[]) h') (by simp)) (HG'.o.kp (KpX.of_below (X:=[]) h') (by simp)) hln.2.1 hgs));have HCB:=hZ (fun w' (h':Below w2.heap.size w2 w')=>(qA9 off _ _ bl bl' w' (HB1.o.kp (KpX.of_below (X:=[]) h') (by simp)) (HB1'.o.kp (KpX.of_below (X:=[]) h') (by simp)) hln.2.2.1 hbs));clear hB e1 e2 hk ht ht' hg hg' hb hb' hr hr' hx hx' hts hgs hbs hrs hln hrn hxn HT HT' HG HG' HB1 HB1' HTs HGs HBs;cases off with
 |false=>
  clear ha
  go_enter Tryd.func48,Tryd.ntmps48
  go_wp2_with fail
  clear c0 c1 c2 c3 c4 c5 c6 c7 c8 c9 c10 c11 c12 c13 c14 c15 c16 d0 d1 d2 d3 d4 d5 d6 d7 d8 d9 d10 d11 d12 d13 d14 d15 d16
  go_loopw [7] (fun iv wr=>∃k:Nat,k<=rn/\iv=.int .i64 k/\Hid (Below w2.heap.size w2 wr)) (fun iv _=>rn-(intOf iv).toNat)
  case atStart=>exact⟨0,by omega,rfl,hZ (Below.refl _ _)⟩
  case round=>
   obtain⟨k,hk,rfl,HW⟩:=hrel;by_cases hlt:k<rn
   ·have h1:k<rl.length:=by have:=HRn.o;omega
    have h2:k<rl'.length:=by have:=HRn.o;have:=HRs.o.1;omega
    obtain⟨g9,o9,cp9,u9,hv,y1,hu1⟩:=qAU.nth (HR.o.kp (KpX.of_below (X:=[]) HW.o) (by simp) (by simp)) k h1;obtain⟨g8,o8,cp8,u8,hv',y2,hu2⟩:=qAU.nth (HR'.o.kp (KpX.of_below (X:=[]) HW.o) (by simp) (by simp)) k h2;have HC:=hZ (fun w' (h':Below wr.heap.size wr w')=>qA9 false _ _ _ _ w' (hu1.kp (KpX.of_below (X:=[]) h') (by simp)) (hu2.kp (KpX.of_below (X:=[]) h') (by simp)) (HL.o.2.2.2.2.2 _ (List.getElem_mem h1)) (HRs.o.2 k h1 h2));clear hu1 hu2;have fc:wr.heap[w.heap.size]? =_:=(HW.o.block _ (by omega)).trans HE1.o;have c15:wr.cell? ⟨w.heap.size,15,none⟩=some (.slice r1 rn r2):=by rw[Lib.cell_of_heap fc];rfl
    have fd:wr.heap[w.heap.size+1]? =_:=(HW.o.block _ (by omega)).trans HE2.o;have d15:wr.cell? ⟨w.heap.size+1,15,none⟩=some (.slice r3 rn r4):=by rw[Lib.cell_of_heap fd];rfl
    clear fc fd;injection hv with hv hq9 hv2;injection hv' with hv' hq8 hv2';subst hv hv2 hv' hv2';clear hq9 hq8;have hn0:(0:Int)<=(k:Int):=by omega
    have hn1:(k:Int)<(rn:Int):=by omega
    clear h1 h2
    go_wp2_with fail
    refine qAs [11,12] (fun W=>W.cell? ⟨w.heap.size,15,none⟩=some (.slice (some ⟨g9,o9,none⟩) rn r2)/\W.cell? ⟨w.heap.size+1,15,none⟩=some (.slice (some ⟨g8,o8,none⟩) rn r4)/\W.cell? ⟨g9,o9+k,none⟩=some u9/\W.cell? ⟨g8,o8+k,none⟩=some u8) (by kernel_rfl) (⟨c15,d15,y1,y2⟩) (fun hHeld=> ?_);refine pU 0 117 ?_;refine qAb 1 118 (v:= ?_) rfl rfl (by kernel_rfl) (by kernel_rfl) (by kernel_rfl) (by kernel_rfl) (by kernel_rfl) (fun _ _ _ h=>h) (by rfl) ?_ (by assumption) ?_;rotate_left
    ·(intro w hSw;go_simp;first|done|with_reducible rfl)
    simp only[sX1,sX2,sX3];refine pU 2 119 ?_;refine pU 3 120 ?_;refine qAb 4 121 (v:= ?_) rfl rfl (by kernel_rfl) (by kernel_rfl) (by kernel_rfl) (by kernel_rfl) (by kernel_rfl) (fun _ _ _ h=>h) (by rfl) ?_ (by assumption) ?_;rotate_left
    ·(intro w hSw;go_simp;first|done|with_reducible rfl)
    simp only[sX1,sX2,sX3];refine pU 5 122 ?_;refine qAb 6 123 (v:= ?_) rfl rfl (by kernel_rfl) (by kernel_rfl) (by kernel_rfl) (by kernel_rfl) (by kernel_rfl) (fun _ _ _ h=>h) (by rfl) ?_ (by assumption) ?_;rotate_left
    ·(intro w hSw;go_simp;first|done|with_reducible rfl)
    simp only[sX1,sX2,sX3];refine pU 7 124 ?_;refine pU 8 125 ?_;refine qAb 9 126 (v:= ?_) rfl rfl (by kernel_rfl) (by kernel_rfl) (by kernel_rfl) (by kernel_rfl) (by kernel_rfl) (fun _ _ _ h=>h) (by rfl) ?_ (by assumption) ?_;rotate_left
    ·(intro w hSw;go_simp;first|done|with_reducible rfl)
    simp only[sX1,sX2,sX3];refine pU 10 127 ?_;refine lU 11 fun K hK=> ?_;go_simp;refine(HC.o _ (qAc _)).mono ?_;rintro e w5 ⟨rfl,hB5⟩;have HW5:=hZ (HW.o.trans (((qAc wr).trans hB5).mono HW.o.size));clear hB5 HC c15 d15 y1 y2
    go_wp2_with fail
    refine hK.out _ _ ?_;clear hK K
    try simp only[Act.put,sX1,sX2,sX3]
    refine lU 12 fun K hK=> ?_;go_simp;refine hK.out _ _ ?_;clear hK K
    try simp only[Act.put,sX1,sX2,sX3]
    refine dU ?_;clear hHeld
    go_wp2_with fail
    go_roundw
    case rel=>exact⟨k+1,by omega,by go_num,HW5⟩
    case measure=>simp[intOf];omega
   ·have hn1:¬(k:Int)<(rn:Int):=by omega
    have fc:wr.heap[w.heap.size]? =_:=(HW.o.block _ (by omega)).trans HE1.o;have c15:wr.cell? ⟨w.heap.size,15,none⟩=some (.slice r1 rn r2):=by rw[Lib.cell_of_heap fc];rfl
    have fd:wr.heap[w.heap.size+1]? =_:=(HW.o.block _ (by omega)).trans HE2.o;have d15:wr.cell? ⟨w.heap.size+1,15,none⟩=some (.slice r3 rn r4):=by rw[Lib.cell_of_heap fd];rfl
    clear fc fd
    go_wp2_with fail
    clear c15 d15 hn1 hlt hk
    go_loopw [8] (fun iv wr=>∃k:Nat,k<=xn/\iv=.int .i64 k/\Hid (Below w2.heap.size w2 wr)) (fun iv _=>xn-(intOf iv).toNat)
    case atStart=>exact⟨0,by omega,rfl,HW⟩
    case round=>
     clear HW;obtain⟨k2,hk2,rfl,HW⟩:=hrel;by_cases hlt2:k2<xn
     ·have h1:k2<xl.length:=by have:=HXn.o;omega
      obtain⟨g9,o9,cp9,hv,y1,y2⟩:=qCA.nth (HX.o.kp (KpX.of_below (X:=[]) HW.o) (by simp)) k2 h1;obtain⟨g8,o8,cp8,hv',y3,y4⟩:=qCA.nth (HX'.o.kp (KpX.of_below (X:=[]) HW.o) (by simp)) k2 h1;obtain⟨q1,hq1⟩:=eX (xl[k2].1);obtain⟨q2,hq2⟩:=eX (xl[k2].2);rw[hq1]at y1 y3;rw[hq2]at y2 y4;have fc:wr.heap[w.heap.size]? =_:=(HW.o.block _ (by omega)).trans HE1.o;have c16:wr.cell? ⟨w.heap.size,16,none⟩=some (.slice x1 xn x2):=by rw[Lib.cell_of_heap fc];rfl
      have fd:wr.heap[w.heap.size+1]? =_:=(HW.o.block _ (by omega)).trans HE2.o;have d16:wr.cell? ⟨w.heap.size+1,16,none⟩=some (.slice x3 xn x4):=by rw[Lib.cell_of_heap fd];rfl
      clear fc fd;injection hv with hv hq9 hv2;injection hv' with hv' hq8 hv2';subst hv hv2 hv' hv2';clear hq9 hq8;have hn0:(0:Int)<=(k2:Int):=by omega
      have hn1:(k2:Int)<(xn:Int):=by omega
      clear h1 hq1 hq2
      go_wp2_with fail
      go_region
      go_wp2_with fail
      go_roundw
      case rel=>exact⟨k2+1,by omega,by go_num,hZ (HW.o.trans ((qDE wr _).mono HW.o.size))⟩
      case measure=>simp[intOf];omega
     ·have hn1:¬(k2:Int)<(xn:Int):=by omega
      have fc:wr.heap[w.heap.size]? =_:=(HW.o.block _ (by omega)).trans HE1.o;have c12:wr.cell? ⟨w.heap.size,12,none⟩=some (.slice t1 tn t2):=by rw[Lib.cell_of_heap fc];rfl
      have c13:wr.cell? ⟨w.heap.size,13,none⟩=some (.slice g1 gn g2):=by rw[Lib.cell_of_heap fc];rfl
      have c14:wr.cell? ⟨w.heap.size,14,none⟩=some (.slice b1 bn b2):=by rw[Lib.cell_of_heap fc];rfl
      have c16:wr.cell? ⟨w.heap.size,16,none⟩=some (.slice x1 xn x2):=by rw[Lib.cell_of_heap fc];rfl
      have fd:wr.heap[w.heap.size+1]? =_:=(HW.o.block _ (by omega)).trans HE2.o;have d12:wr.cell? ⟨w.heap.size+1,12,none⟩=some (.slice t3 tn t4):=by rw[Lib.cell_of_heap fd];rfl
      have d13:wr.cell? ⟨w.heap.size+1,13,none⟩=some (.slice g3 gn g4):=by rw[Lib.cell_of_heap fd];rfl
      have d14:wr.cell? ⟨w.heap.size+1,14,none⟩=some (.slice b3 bn b4):=by rw[Lib.cell_of_heap fd];rfl
      have d16:wr.cell? ⟨w.heap.size+1,16,none⟩=some (.slice x3 xn x4):=by rw[Lib.cell_of_heap fd];rfl
      clear fc fd;have HZ:=hZ HW.o.size
      go_wp2_with fail
      refine(HCT.o _ HW.o).mono ?_;rintro e w5 ⟨rfl,hB5⟩;have HW5:=hZ (HW.o.trans (hB5.mono HW.o.size));clear hB5 c12 d12 c13 d13 c14 d14 c16 d16;have fc:w5.heap[w.heap.size]? =_:=(HW5.o.block _ (by omega)).trans HE1.o;have c13:w5.cell? ⟨w.heap.size,13,none⟩=some (.slice g1 gn g2):=by rw[Lib.cell_of_heap fc];rfl
      have c14:w5.cell? ⟨w.heap.size,14,none⟩=some (.slice b1 bn b2):=by rw[Lib.cell_of_heap fc];rfl
      have fd:w5.heap[w.heap.size+1]? =_:=(HW5.o.block _ (by omega)).trans HE2.o;have d13:w5.cell? ⟨w.heap.size+1,13,none⟩=some (.slice g3 gn g4):=by rw[Lib.cell_of_heap fd];rfl
      have d14:w5.cell? ⟨w.heap.size+1,14,none⟩=some (.slice b3 bn b4):=by rw[Lib.cell_of_heap fd];rfl
      clear fc fd
      go_wp2_with fail
      refine(HCG.o _ HW5.o).mono ?_;rintro e w6 ⟨rfl,hB6⟩;have HW6:=hZ (HW5.o.trans (hB6.mono HW5.o.size));clear hB6 c13 d13 c14 d14;have fc:w6.heap[w.heap.size]? =_:=(HW6.o.block _ (by omega)).trans HE1.o;have c14:w6.cell? ⟨w.heap.size,14,none⟩=some (.slice b1 bn b2):=by rw[Lib.cell_of_heap fc];rfl
      have fd:w6.heap[w.heap.size+1]? =_:=(HW6.o.block _ (by omega)).trans HE2.o;have d14:w6.cell? ⟨w.heap.size+1,14,none⟩=some (.slice b3 bn b4):=by rw[Lib.cell_of_heap fd];rfl
      clear fc fd
      go_wp2_with fail
      refine(HCB.o _ HW6.o).mono ?_;rintro e w7 ⟨rfl,hB7⟩;have HW7:=hZ (HW6.o.trans (hB7.mono HW6.o.size));clear hB7 c14 d14
      go_wp2_with fail
      go_ret;exact⟨rfl,HBw.o.trans (HW7.o.mono HBw.o.size)⟩
 |true=>
  obtain rfl:a9=a:=ha rfl;clear ha
  go_enter Tryd.func48,Tryd.ntmps48
  go_wp2_with fail
  clear c0 c1 c2 c3 c4 c5 c6 c7 c8 c9 c10 c11 c12 c13 c14 c15 c16 d0 d1 d2 d3 d4 d5 d6 d7 d8 d9 d10 d11 d12 d13 d14 d15 d16
  go_loopw [7] (fun iv wr=>∃k:Nat,k<=rn/\iv=.int .i64 k/\Hid (Below w2.heap.size w2 wr)) (fun iv _=>rn-(intOf iv).toNat)
  case atStart=>exact⟨0,by omega,rfl,hZ (Below.refl _ _)⟩
  case round=>
   obtain⟨k,hk,rfl,HW⟩:=hrel;by_cases hlt:k<rn
   ·have h1:k<rl.length:=by have:=HRn.o;omega
    have h2:k<rl'.length:=by have:=HRn.o;have:=HRs.o.1;omega
    obtain⟨g9,o9,cp9,u9,hv,y1,hu1⟩:=qAU.nth (HR.o.kp (KpX.of_below (X:=[]) HW.o) (by simp) (by simp)) k h1;obtain⟨g8,o8,cp8,u8,hv',y2,hu2⟩:=qAU.nth (HR'.o.kp (KpX.of_below (X:=[]) HW.o) (by simp) (by simp)) k h2;have HC:=hZ (fun w' (h':Below wr.heap.size wr w')=>qA9 true _ _ _ _ w' (hu1.kp (KpX.of_below (X:=[]) h') (by simp)) (hu2.kp (KpX.of_below (X:=[]) h') (by simp)) (HL.o.2.2.2.2.2 _ (List.getElem_mem h1)) (HRs.o.2 k h1 h2));clear hu1 hu2;have fc:wr.heap[w.heap.size]? =_:=(HW.o.block _ (by omega)).trans HE1.o;have c15:wr.cell? ⟨w.heap.size,15,none⟩=some (.slice r1 rn r2):=by rw[Lib.cell_of_heap fc];rfl
    have fd:wr.heap[w.heap.size+1]? =_:=(HW.o.block _ (by omega)).trans HE2.o;have d15:wr.cell? ⟨w.heap.size+1,15,none⟩=some (.slice r3 rn r4):=by rw[Lib.cell_of_heap fd];rfl
    clear fc fd;injection hv with hv hq9 hv2;injection hv' with hv' hq8 hv2';subst hv hv2 hv' hv2';clear hq9 hq8;have hn0:(0:Int)<=(k:Int):=by omega
    have hn1:(k:Int)<(rn:Int):=by omega
    clear h1 h2
    go_wp2_with fail
    refine qAs [11,12] (fun W=>W.cell? ⟨w.heap.size,15,none⟩=some (.slice (some ⟨g9,o9,none⟩) rn r2)/\W.cell? ⟨w.heap.size+1,15,none⟩=some (.slice (some ⟨g8,o8,none⟩) rn r4)/\W.cell? ⟨g9,o9+k,none⟩=some u9/\W.cell? ⟨g8,o8+k,none⟩=some u8) (by kernel_rfl) (⟨c15,d15,y1,y2⟩) (fun hHeld=> ?_);refine pU 0 117 ?_;refine qAb 1 118 (v:= ?_) rfl rfl (by kernel_rfl) (by kernel_rfl) (by kernel_rfl) (by kernel_rfl) (by kernel_rfl) (fun _ _ _ h=>h) (by rfl) ?_ (by assumption) ?_;rotate_left
    ·(intro w hSw;go_simp;first|done|with_reducible rfl)
    simp only[sX1,sX2,sX3];refine pU 2 119 ?_;refine pU 3 120 ?_;refine qAb 4 121 (v:= ?_) rfl rfl (by kernel_rfl) (by kernel_rfl) (by kernel_rfl) (by kernel_rfl) (by kernel_rfl) (fun _ _ _ h=>h) (by rfl) ?_ (by assumption) ?_;rotate_left
    ·(intro w hSw;go_simp;first|done|with_reducible rfl)
    simp only[sX1,sX2,sX3];refine pU 5 122 ?_;refine qAb 6 123 (v:= ?_) rfl rfl (by kernel_rfl) (by kernel_rfl) (by kernel_rfl) (by kernel_rfl) (by kernel_rfl) (fun _ _ _ h=>h) (by rfl) ?_ (by assumption) ?_;rotate_left
    ·(intro w hSw;go_simp;first|done|with_reducible rfl)
    simp only[sX1,sX2,sX3];refine pU 7 124 ?_;refine pU 8 125 ?_;refine qAb 9 126 (v:= ?_) rfl rfl (by kernel_rfl) (by kernel_rfl) (by kernel_rfl) (by kernel_rfl) (by kernel_rfl) (fun _ _ _ h=>h) (by rfl) ?_ (by assumption) ?_;rotate_left
    ·(intro w hSw;go_simp;first|done|with_reducible rfl)
    simp only[sX1,sX2,sX3];refine pU 10 127 ?_;refine lU 11 fun K hK=> ?_;go_simp;refine(HC.o _ (qAc _)).mono ?_;rintro e w5 ⟨rfl,hB5⟩;have HW5:=hZ (HW.o.trans (((qAc wr).trans hB5).mono HW.o.size));clear hB5 HC c15 d15 y1 y2
    go_wp2_with fail
    refine hK.out _ _ ?_;clear hK K
    try simp only[Act.put,sX1,sX2,sX3]
    refine lU 12 fun K hK=> ?_;go_simp;refine hK.out _ _ ?_;clear hK K
    try simp only[Act.put,sX1,sX2,sX3]
    refine dU ?_;clear hHeld
    go_wp2_with fail
    go_roundw
    case rel=>exact⟨k+1,by omega,by go_num,HW5⟩
    case measure=>simp[intOf];omega
   ·have hn1:¬(k:Int)<(rn:Int):=by omega
    have fc:wr.heap[w.heap.size]? =_:=(HW.o.block _ (by omega)).trans HE1.o;have c15:wr.cell? ⟨w.heap.size,15,none⟩=some (.slice r1 rn r2):=by rw[Lib.cell_of_heap fc];rfl
    have fd:wr.heap[w.heap.size+1]? =_:=(HW.o.block _ (by omega)).trans HE2.o;have d15:wr.cell? ⟨w.heap.size+1,15,none⟩=some (.slice r3 rn r4):=by rw[Lib.cell_of_heap fd];rfl
    clear fc fd
    go_wp2_with fail
    clear c15 d15 hn1 hlt hk
    go_loopw [8] (fun iv wr=>∃k:Nat,k<=xn/\iv=.int .i64 k/\Hid (Below w2.heap.size w2 wr)) (fun iv _=>xn-(intOf iv).toNat)
    case atStart=>exact⟨0,by omega,rfl,HW⟩
    case round=>
     clear HW;obtain⟨k2,hk2,rfl,HW⟩:=hrel;by_cases hlt2:k2<xn
     ·have h1:k2<xl.length:=by have:=HXn.o;omega
      obtain⟨g9,o9,cp9,hv,y1,y2⟩:=qCA.nth (HX.o.kp (KpX.of_below (X:=[]) HW.o) (by simp)) k2 h1;obtain⟨g8,o8,cp8,hv',y3,y4⟩:=qCA.nth (HX'.o.kp (KpX.of_below (X:=[]) HW.o) (by simp)) k2 h1;obtain⟨q1,hq1⟩:=eX (xl[k2].1);obtain⟨q2,hq2⟩:=eX (xl[k2].2);rw[hq1]at y1 y3;rw[hq2]at y2 y4;have fc:wr.heap[w.heap.size]? =_:=(HW.o.block _ (by omega)).trans HE1.o;have c16:wr.cell? ⟨w.heap.size,16,none⟩=some (.slice x1 xn x2):=by rw[Lib.cell_of_heap fc];rfl
      have fd:wr.heap[w.heap.size+1]? =_:=(HW.o.block _ (by omega)).trans HE2.o;have d16:wr.cell? ⟨w.heap.size+1,16,none⟩=some (.slice x3 xn x4):=by rw[Lib.cell_of_heap fd];rfl
      clear fc fd;injection hv with hv hq9 hv2;injection hv' with hv' hq8 hv2';subst hv hv2 hv' hv2';clear hq9 hq8;have hn0:(0:Int)<=(k2:Int):=by omega
      have hn1:(k2:Int)<(xn:Int):=by omega
      clear h1 hq1 hq2
      go_wp2_with fail
      go_region
      go_wp2_with fail
      go_roundw
      case rel=>exact⟨k2+1,by omega,by go_num,hZ (HW.o.trans ((qDE wr _).mono HW.o.size))⟩
      case measure=>simp[intOf];omega
     ·have hn1:¬(k2:Int)<(xn:Int):=by omega
      have fc:wr.heap[w.heap.size]? =_:=(HW.o.block _ (by omega)).trans HE1.o;have c12:wr.cell? ⟨w.heap.size,12,none⟩=some (.slice t1 tn t2):=by rw[Lib.cell_of_heap fc];rfl
      have c13:wr.cell? ⟨w.heap.size,13,none⟩=some (.slice g1 gn g2):=by rw[Lib.cell_of_heap fc];rfl
      have c14:wr.cell? ⟨w.heap.size,14,none⟩=some (.slice b1 bn b2):=by rw[Lib.cell_of_heap fc];rfl
      have c16:wr.cell? ⟨w.heap.size,16,none⟩=some (.slice x1 xn x2):=by rw[Lib.cell_of_heap fc];rfl
      have fd:wr.heap[w.heap.size+1]? =_:=(HW.o.block _ (by omega)).trans HE2.o;have d12:wr.cell? ⟨w.heap.size+1,12,none⟩=some (.slice t3 tn t4):=by rw[Lib.cell_of_heap fd];rfl
      have d13:wr.cell? ⟨w.heap.size+1,13,none⟩=some (.slice g3 gn g4):=by rw[Lib.cell_of_heap fd];rfl
      have d14:wr.cell? ⟨w.heap.size+1,14,none⟩=some (.slice b3 bn b4):=by rw[Lib.cell_of_heap fd];rfl
      have d16:wr.cell? ⟨w.heap.size+1,16,none⟩=some (.slice x3 xn x4):=by rw[Lib.cell_of_heap fd];rfl
      clear fc fd;have HZ:=hZ HW.o.size
      go_wp2_with fail
      refine(HCT.o _ HW.o).mono ?_;rintro e w5 ⟨rfl,hB5⟩;have HW5:=hZ (HW.o.trans (hB5.mono HW.o.size));clear hB5 c12 d12 c13 d13 c14 d14 c16 d16;have fc:w5.heap[w.heap.size]? =_:=(HW5.o.block _ (by omega)).trans HE1.o;have c13:w5.cell? ⟨w.heap.size,13,none⟩=some (.slice g1 gn g2):=by rw[Lib.cell_of_heap fc];rfl
      have c14:w5.cell? ⟨w.heap.size,14,none⟩=some (.slice b1 bn b2):=by rw[Lib.cell_of_heap fc];rfl
      have fd:w5.heap[w.heap.size+1]? =_:=(HW5.o.block _ (by omega)).trans HE2.o;have d13:w5.cell? ⟨w.heap.size+1,13,none⟩=some (.slice g3 gn g4):=by rw[Lib.cell_of_heap fd];rfl
      have d14:w5.cell? ⟨w.heap.size+1,14,none⟩=some (.slice b3 bn b4):=by rw[Lib.cell_of_heap fd];rfl
      clear fc fd
      go_wp2_with fail
      refine(HCG.o _ HW5.o).mono ?_;rintro e w6 ⟨rfl,hB6⟩;have HW6:=hZ (HW5.o.trans (hB6.mono HW5.o.size));clear hB6 c13 d13 c14 d14;have fc:w6.heap[w.heap.size]? =_:=(HW6.o.block _ (by omega)).trans HE1.o;have c14:w6.cell? ⟨w.heap.size,14,none⟩=some (.slice b1 bn b2):=by rw[Lib.cell_of_heap fc];rfl
      have fd:w6.heap[w.heap.size+1]? =_:=(HW6.o.block _ (by omega)).trans HE2.o;have d14:w6.cell? ⟨w.heap.size+1,14,none⟩=some (.slice b3 bn b4):=by rw[Lib.cell_of_heap fd];rfl
      clear fc fd
      go_wp2_with fail
      refine(HCB.o _ HW6.o).mono ?_;rintro e w7 ⟨rfl,hB7⟩;have HW7:=hZ (HW6.o.trans (hB7.mono HW6.o.size));clear hB7 c14 d14
      go_wp2_with fail
      go_ret;exact⟨rfl,HBw.o.trans (HW7.o.mono HBw.o.size)⟩
open Go
def qCP(w:World)(g off:Nat)(cs:List Value):Prop:=∀j v,cs[j]? =some v->w.cell? ⟨g,off+j,none⟩=some v
section
variable {P:Program}
theorem qCD(w:World)(g off:Nat)(ty:TypeId)(cs:List Value)(d:TypeDesc)(hc:qCP w g off cs)
 (hu:P.underlying ty=some d)(hd:(match d with|.struct _|.array _ _=>true|_=>false)=true)(hi:(P.info? ty).map (·.size)=some cs.length):
 (loadVar ty ⟨g,off,none⟩).run P w=.ok (.agg cs.toArray) w:=by
 have hl:(loadCells ⟨g,off,none⟩ cs.length).run P w=.ok cs.toArray w:=
  run_loadCells_list (P:=P) w ⟨g,off,none⟩ cs (fun j v hv=>by
   have hadd:(⟨g,off,none⟩:Addr).add j=⟨g,off+j,none⟩:=by unfold Addr.add;split<;>simp_all
   rw[hadd];exact hc j v hv)
 cases hq:P.info? ty with
 |none=>simp[hq]at hi
 |some i=>
  have hs:i.size=cs.length:=by simpa[hq]using hi
  have hagg:(isAgg ty).run P w=.ok true w:=by
   unfold isAgg;rw[Sem.run_bind,run_underlying hu w];cases d<;>simp_all
  simp[loadVar,Sem.run_bind,hagg,sizeOf,typeInfo,hq,hs,hl]
theorem qCm{o:Oper}{a:Act}{w:World}(ty:TypeId)(x:Operand)(ho:o.op=.load ty x)(g off:Nat)(hx:a.eval x=.pointer (some ⟨g,off,none⟩))(cs:List Value)(d:TypeDesc)(hc:qCP w g off cs)
 (hu:P.underlying ty=some d)(hd:(match d with|.struct _|.array _ _=>true|_=>false)=true)(hi:(P.info? ty).map (·.size)=some cs.length):
 (execOp a.eval o).run P w=.ok (.value (.agg cs.toArray)) w:=by
 unfold execOp;simp only[ho,hx,Instr.loadAt,Instr.sureAddr,Sem.run_bind,Sem.run_pure,Result.andThen_ok,qCD w g off ty cs d hc hu hd hi]
theorem qBO{ops:Array Oper}{rest:List Oper}{o:Oper}{a:Act}{w:World}{Q:Exit->Act->World->Prop}(hgd:o.guard=none)(ty:TypeId)(x:Operand)(ho:o.op=.load ty x)
 (g off:Nat)(hx:a.eval x=.pointer (some ⟨g,off,none⟩))(cs:List Value)(d:TypeDesc)(hc:qCP w g off cs)
 (hu:P.underlying ty=some d)(hd:(match d with|.struct _|.array _ _=>true|_=>false)=true)(hi:(P.info? ty).map (·.size)=some cs.length)
 (h:wpList P ops Q rest (a.put o.dst (.agg cs.toArray)) w):wpList P ops Q (o::rest) a w:=
 wpList_plain hgd fun _ hK=>by
  unfold Oper.wp execOp;simp only[ho,hx,Instr.loadAt,Instr.sureAddr,Sem.run_bind,Sem.run_pure,Result.andThen_ok,qCD w g off ty cs d hc hu hd hi];exact hK _ _ h
end
def smD(off:Bool)(d d':Dc):Prop:=d.st=d'.st/\(off=true->d=d')
theorem smD.refl(off:Bool)(d:Dc):smD off d d:=⟨rfl,fun _=>rfl⟩
def qKZ(d:Dc):Prop:=d.take.length<=1000000/\d.give.length<=1000000/\d.back.length<=1000000/\d.rows.length<=1000000/\d.brs.length<=1000000/\∀r∈d.rows,r.length<=1000000
theorem smD.rows{off:Bool}{d d':Dc}(h:smD off d d'):smR off d.rows d'.rows:=by
 have hr:d.rows.map stL=d'.rows.map stL:=congrArg Dc.rows h.1;refine⟨by simpa using congrArg List.length hr,fun j h1 h2=>⟨?_,fun ho=>by have:=h.2 ho;subst this;rfl⟩⟩;have h3:(d.rows.map stL)[j]? =(d'.rows.map stL)[j]? :=by rw[hr]
 simpa[List.getElem?_map,List.getElem?_eq_getElem h1,List.getElem?_eq_getElem h2]using h3
theorem qFv(off:Bool)(d d':Dc)(cs cs':List Value)(w:World)(h:DRef w cs d)(h':DRef w cs' d')(hs:smD off d d')(hl:qKZ d):
 Calls Tryd.prog 48 #[.agg cs.toArray,.agg cs'.toArray,.bool off] w fun e w'=>e=.returned (.bool true)/\Below w.heap.size w w':=by
 obtain⟨y,rfl,hy⟩:=h;obtain⟨y',rfl,hy'⟩:=h';have k1:d.kind=d'.kind:=(congrArg Dc.kind hs.1:);have k2:d.name=d'.name:=(congrArg Dc.name hs.1:);have k3:d.object=d'.object:=(congrArg Dc.object hs.1:);have k4:d.mixed=d'.mixed:=(congrArg Dc.mixed hs.1:);have k5:d.coin=d'.coin:=(congrArg Dc.coin hs.1:);have k6:d.wear=d'.wear:=(congrArg Dc.wear hs.1:);have k7:d.bind=d'.bind:=(congrArg Dc.bind hs.1:);have k8:d.level=d'.level:=(congrArg Dc.level hs.1:);have k9:d.time=d'.time:=(congrArg Dc.time hs.1:);have k10:d.chance=d'.chance:=(congrArg Dc.chance hs.1:);have k11:d.of_=d'.of_:=(congrArg Dc.of_ hs.1:);have l1:smP off d.take d'.take:=⟨(congrArg Dc.take hs.1:),fun ho=>by rw[hs.2 ho]⟩;have l2:smP off d.give d'.give:=⟨(congrArg Dc.give hs.1:),fun ho=>by rw[hs.2 ho]⟩;have l3:smP off d.back d'.back:=⟨(congrArg Dc.back hs.1:),fun ho=>by rw[hs.2 ho]⟩;have l4:=hs.rows;have l5:d.brs=d'.brs:=(congrArg Dc.brs hs.1:);have l6:off=true->d'.at_=d.at_:=fun ho=>by rw[hs.2 ho]
 obtain⟨t1,t2,e1, -,-⟩:=TSl.form hy.t;obtain⟨g1,g2,e2, -,-⟩:=TSl.form hy.g;obtain⟨b1,b2,e3, -,-⟩:=TSl.form hy.b;obtain⟨r1,r2,e4, -,-⟩:=TSl.form hy.r;obtain⟨x1,x2,e5, -,-⟩:=TSl.form hy.x;obtain⟨t3,t4,f1, -,-⟩:=TSl.form hy'.t;obtain⟨g3,g4,f2, -,-⟩:=TSl.form hy'.g;obtain⟨b3,b4,f3, -,-⟩:=TSl.form hy'.b;obtain⟨r3,r4,f4, -,-⟩:=TSl.form hy'.r;obtain⟨x3,x4,f5, -,-⟩:=TSl.form hy'.x;have hT:=hy.t;have hG:=hy.g;have hB:=hy.b;have hR:=hy.r;have hX:=hy.x;have hT':=hy'.t;have hG':=hy'.g;have hB':=hy'.b;have hR':=hy'.r;have hX':=hy'.x;unfold dcC;rw[e1]at hT;rw[e2]at hG;rw[e3]at hB;rw[e4]at hR;rw[e5]at hX;rw[f1,l1.len]at hT';rw[f2,l2.len]at hG';rw[f3,l3.len]at hB';rw[f4,<-l4.1]at hR';rw[f5,<-l5]at hX';rw[e1,e2,e3,e4,e5,f1,f2,f3,f4,f5,<-k1,<-k2,<-k3,<-k4,<-k5,<-k6,<-k7,<-k8,<-k9,<-k10,<-k11,l1.len,l2.len,l3.len,<-l4.1,<-l5];exact qFu off _ _ _ _ _ _ _ _ _ _ _ _ _ t1 t3 g1 g3 b1 b3 r1 r3 x1 x3 _ t2 t4 _ g2 g4 _ b2 b4 _ r2 r4 _ x2 x4 _ _ _ _ _ _ _ _ _ w l6 hT hT' l1 hG hG' l2 hB hB' l3 hR hR' l4 hX hX' hl
theorem qCQ.nth{e et dt:TypeId}{w:World}{v:Value}{l:List Dc}(h:qCQ e et dt w v l)(i:Nat)(hi:i<l.length):∃g off cap cs,v=.slice (some ⟨g,off,none⟩) l.length cap/\qF4 e et w cs l[i]/\cs.length=17/\qCP w g (off+i*17) cs:=by
 obtain⟨g,off,cap,es,hv,h1,h2,h3,h4,h5,hc⟩:=TSl.at_ h i hi;refine⟨g,off,cap,es,hv,h4,h5,fun j x hj=> ?_⟩;have hjl:j<17:=by
  have:=(List.getElem?_eq_some_iff.1 hj).1;omega
 rw[hc j hjl,hj]
theorem qFg:(Tryd.prog.info? 34).map (·.size)=some 17:=by kernel_rfl
theorem qI7(off:Bool)(va vb:Value)(l m:List Dc)(w:World)(ha:DsRef w va l)(hb:DsRef w vb m)(hlen:m.length=l.length)(hs:∀j (h1:j<l.length) (h2:j<m.length),smD off l[j] m[j])(hl:l.length<=1000000)(hD:∀d∈l,qKZ d):
 Calls Tryd.prog 20 #[va,vb,.bool off] w fun e w'=>e=.returned (.bool true)/\Below w.heap.size w w':=by
 obtain⟨aa,ca,rfl, -,-⟩:=TSl.form ha;obtain⟨ab,cb,rfl, -,-⟩:=TSl.form hb;have HA:=hZ ha;have HB:=hZ hb;have HS:=hZ hs;have HD:=hZ hD;obtain⟨n,hn⟩:=eX l.length;rw[hlen,hn];rw[hn]at hl;have Hn:=hZ hn;have Hnb:Hid (m.length=n):=hZ (by omega);clear ha hb hs hlen hn hD
 go_enter Tryd.func20,Tryd.ntmps20
 go_wp2_with fail
 go_loopw [7] (fun iv wr=>∃k:Nat,k<=n/\iv=.int .i64 k/\Hid (Below w.heap.size w wr)) (fun iv _=>n-(intOf iv).toNat)
 case atStart=>exact⟨0,by omega,rfl,hZ (Below.refl _ _)⟩
 case round=>
  obtain⟨k,hk,rfl,HW⟩:=hrel;by_cases hlt:k<n
  ·have h1:k<l.length:=by have:=Hn.o;omega
   have h2:k<m.length:=by have:=Hnb.o;omega
   obtain⟨g,o1,cp,cs,hv,d1,s1,r1⟩:=qCQ.nth (HA.o.kp (KpX.of_below (X:=[]) HW.o) (by simp) (by simp) (by simp) (by simp)) k h1;obtain⟨g',o2,cp',cs',hv',d2,s2,r2⟩:=qCQ.nth (HB.o.kp (KpX.of_below (X:=[]) HW.o) (by simp) (by simp) (by simp) (by simp)) k h2;injection hv with hv hq1 hv2;injection hv' with hv' hq2 hv2';subst hv hv2 hv' hv2';have HC:=hZ (qFv off _ _ cs cs' wr.drew (d1.kp (KpX.of_below (X:=[]) (qAc wr)) (by simp) (by simp) (by simp)) (d2.kp (KpX.of_below (X:=[]) (qAc wr)) (by simp) (by simp) (by simp)) (HS.o k h1 h2) (HD.o _ (List.getElem_mem h1)));have hn0:(0:Int)<=(k:Int):=by omega
   have hn1:(k:Int)<(n:Int):=by omega
   have hi1:(Tryd.prog.info? 34).map (·.size)=some cs.length:=by rw[s1];exact qFg
   have hi2:(Tryd.prog.info? 34).map (·.size)=some cs'.length:=by rw[s2];exact qFg
   clear d1 d2 hq1 hq2 h1 h2
   go_wp2_with fail
   refine qAs [9,10] (fun W=>qCP W g (o1+k*17) cs/\qCP W g' (o2+k*17) cs') (by kernel_rfl) (⟨r1,r2⟩) (fun hHeld=> ?_);clear r1 r2;refine pU 0 19 ?_;refine pU 1 20 ?_;refine pU 2 21 ?_;refine qAb 3 22 (v:=.agg cs.toArray) rfl rfl (by kernel_rfl) (by kernel_rfl) (by kernel_rfl) (by kernel_rfl) (by kernel_rfl) (fun _ _ _ h=>h) (by rfl) (fun w hSw=>qCm _ _ rfl g (o1+k*17) rfl cs _ (hSw.1) Tryd.underlying34 rfl hi1) (by assumption) ?_;simp only[sX1,sX2,sX3];refine pU 4 23 ?_;refine pU 5 24 ?_;refine pU 6 25 ?_;refine qAb 7 26 (v:=.agg cs'.toArray) rfl rfl (by kernel_rfl) (by kernel_rfl) (by kernel_rfl) (by kernel_rfl) (by kernel_rfl) (fun _ _ _ h=>h) (by rfl) (fun w hSw=>qCm _ _ rfl g' (o2+k*17) rfl cs' _ (hSw.2) Tryd.underlying34 rfl hi2) (by assumption) ?_;simp only[sX1,sX2,sX3];refine pU 8 27 ?_;refine lU 9 fun K hK=> ?_;go_simp;refine HC.o.mono ?_;rintro e w5 ⟨rfl,hB5⟩;have HW5:=hZ (HW.o.trans (((qAc wr).trans hB5).mono HW.o.size));clear hB5 HC hHeld hi1 hi2 s1 s2
   go_wp2_with fail
   refine hK.out _ _ ?_;clear hK K
   try simp only[Act.put,sX1,sX2,sX3]
   refine lU 10 fun K hK=> ?_;go_simp;refine hK.out _ _ ?_;clear hK K
   try simp only[Act.put,sX1,sX2,sX3]
   refine dU ?_
   go_wp2_with fail
   go_roundw
   case rel=>exact⟨k+1,by omega,by go_num,HW5⟩
   case measure=>simp[intOf];omega
  ·have hn1:¬(k:Int)<(n:Int):=by omega
   go_wp2_with fail
   go_ret;exact⟨rfl,HW.o⟩
end Go.Proofs.YtpmnbcdjoomgcaaDoor
