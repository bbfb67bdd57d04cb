/- The reference's generator: next, name, list. -/
import Derived.Test.YtpmnbcdjoomgcaaDoorQUPChk2
import Derived.Test.YtpmnbcdjoomgcaaDoorQUPPut
import Derived.Test.YtpmnbcdjoomgcaaDoorQUGSeq
import Derived.Test.YtpmnbcdjoomgcaaDoorQUPLive
import Derived.Test.YtpmnbcdjoomgcaaDoorQUQSam3
set_option linter.unusedVariables false
set_option linter.unusedSimpArgs false
set_option maxHeartbeats 4000000
set_option maxRecDepth 100000
namespace Go.Proofs.YtpmnbcdjoomgcaaDoor
open Go.RowKit
theorem qEe(v:Value)(l:List Pr)(w:World)(h:qAz 74 w v l)(hl:l.length<=1000000):
 Calls Tryd.prog 33 #[v] w fun e w'=>(∃u,e=.returned u/\qAz 68 w' u l)/\Below w.heap.size w w':=by
 obtain⟨a,cap,rfl, -,-⟩:=TSl.form h;have HA:=hZ h;obtain⟨n,hn⟩:=eX l.length;rw[hn];rw[hn]at hl;have Hn:=hZ hn;clear h hn
 go_enter Tryd.func33,Tryd.ntmps33
 go_wp2_with fail
 go_loopw [3,4] (fun ov iv wr=>∃k:Nat,k<=n/\iv=.int .i64 k/\Hid (wr.ownsRow w.heap.size 68 3 ov k ((l.take k).flatMap prC))/\Hid (Below w.heap.size w wr)) (fun _ iv _=>n-(intOf iv).toNat)
 case atStart=>exact⟨0,by omega,rfl,hZ (World.ownsRow_nil _ _ _ _),hZ (Below.refl _ _)⟩
 case round=>
  obtain⟨k,hk,rfl,HO,HB⟩:=hrel;by_cases hlt:k<n
  ·have h1:k<l.length:=by have:=Hn.o;omega
   obtain⟨g,o1,cp,hv,y0,y1,y2⟩:=qAz.nth (HA.o.kp (KpX.of_below (X:=[]) HB.o) (by simp)) k h1;injection hv with hv hq1 hv2;subst hv hv2;obtain⟨p,hp⟩:=eX (l[k]);rw[hp]at y0 y1 y2;have HT:Hid ((l.take k).flatMap prC++prC p=(l.take (k+1)).flatMap prC):=hZ (by rw[List.take_succ_eq_append_getElem h1,hp];simp);obtain⟨wd,hwd⟩:=eX wr.drew;have hBd:Below wr.heap.size wr wd:=by rw[<-hwd];exact(Below.refl _ _).drew
   obtain⟨w5,hw5⟩:=eX (wd.alloc (.cells #[.int .i64 p.n,.string ⟨p.name.toArray⟩,.int .i64 p.at_] 68));have hB5:Below wr.heap.size wr w5:=by rw[<-hw5];exact hBd.trans ((qAa _ _).mono hBd.size)
   have HW5:Hid (qAu w5 wd.heap.size 68 (prC p)):=hZ (by rw[<-hw5];exact qAu.new _ _ _);have HO5:=hZ ((qAg.of_below (S:=fun _=>False) hB5).own HO.o (fun _ _ h=>h));have HB5:=hZ (HB.o.trans (hB5.mono HB.o.size));have hn0:(0:Int)<=(k:Int):=by omega
   have hn1:(k:Int)<(n:Int):=by omega
   clear hBd hB5 HO HB hp hq1 h1
   go_wp2_with fail
   refine qAr [17,18,19] (fun W=>W.cell? ⟨g,o1+k*3,none⟩=some (.int .i64 p.n)/\W.cell? ⟨g,o1+k*3+1,none⟩=some (.string ⟨p.name.toArray⟩)/\W.cell? ⟨g,o1+k*3+2,none⟩=some (.int .i64 p.at_)) (by kernel_rfl) (⟨y0,y1,y2⟩) (fun hHeld=> ?_);rw[hwd]at hHeld ⊢;clear hwd y0 y1 y2;refine pU 0 11 ?_;refine pU 1 12 ?_;refine pU 2 13 ?_;refine pU 3 14 ?_;refine pU 4 15 ?_;refine qAb 5 16 (v:= ?_) rfl rfl (by kernel_rfl) (by kernel_rfl) (by kernel_rfl) (by kernel_rfl) (by kernel_rfl) (fun _ _ _ h=>h) (by rfl) ?_ (by assumption) ?_;rotate_left
   ·(intro w hSw;go_simp;first|done|with_reducible rfl)
   simp only[sX1,sX2,sX3];refine pU 6 17 ?_;refine pU 7 18 ?_;refine pU 8 19 ?_;refine pU 9 20 ?_;refine qAb 10 21 (v:= ?_) rfl rfl (by kernel_rfl) (by kernel_rfl) (by kernel_rfl) (by kernel_rfl) (by kernel_rfl) (fun _ _ _ h=>h) (by rfl) ?_ (by assumption) ?_;rotate_left
   ·(intro w hSw;go_simp;first|done|with_reducible rfl)
   simp only[sX1,sX2,sX3];refine pU 11 22 ?_;refine pU 12 23 ?_;refine pU 13 24 ?_;refine pU 14 25 ?_;refine qAb 15 26 (v:= ?_) rfl rfl (by kernel_rfl) (by kernel_rfl) (by kernel_rfl) (by kernel_rfl) (by kernel_rfl) (fun _ _ _ h=>h) (by rfl) ?_ (by assumption) ?_;rotate_left
   ·(intro w hSw;go_simp;first|done|with_reducible rfl)
   simp only[sX1,sX2,sX3];refine pU 16 27 ?_;refine lU 17 fun K hK=> ?_;go_simp;refine hK.out _ _ ?_;clear hK K
   try simp only[Act.put,sX1,sX2,sX3]
   clear hw5 hHeld;refine lU 18 fun K hK=> ?_;refine qBx (W0:=w5) qJw rfl _ _ rfl (prC p) wd.heap.size _ _ _ rfl rfl HW5.o rfl (by simp[prC,Value.oneCell']) HO5.o (Below.refl _ _) HB5.o.size (by omega) (by omega) ?_;intro g6 cap6 w6 HO6 HB6 HF6 hcap6 hcap6b;have HB7:=hZ (HB5.o.trans HB6.o);rw[HT.o]at HO6;clear HO5 HB5 HB6 HF6 HW5 hcap6 hcap6b HT;refine hK.out _ _ ?_;clear hK K
   try simp only[Act.put,sX1,sX2,sX3]
   refine lU 19 fun K hK=> ?_;go_simp;refine hK.out _ _ ?_;clear hK K
   try simp only[Act.put,sX1,sX2,sX3]
   refine dU ?_
   go_wp2_with fail
   go_roundw
   case rel=>exact⟨k+1,by omega,by go_num,HO6,HB7⟩
   case measure=>simp[intOf];omega
  ·have hn1:¬(k:Int)<(n:Int):=by omega
   have hkn:k=n:=by omega
   have HP:Hid (wr.ownsRow w.heap.size 68 3 _ l.length (l.flatMap prC)):=hZ (by have:=HO.o;rw[hkn,<-Hn.o,List.take_length]at this;exact this);clear HO hkn
   go_wp2_with fail
   go_ret;exact⟨⟨_,rfl,qAz.of_own HP.o⟩,HB.o⟩
structure EBx(w0 wr w:World)(b5:Nat)(d:Dc)(y z:Ls)(s:Nat)(ov:Value)(m:Nat)(css:List (List Value)):Prop where
 lo:w0.heap.size<=b5
 src:qAu w b5 34 (dcC d y)
 dst:qAu w (b5+1) 61 (dcC d z)
 ly:qJU 74 30 w d y
 lx:qCU w z.x d.brs
 pt:1<=s->qAz 68 w z.t d.take
 pg:2<=s->qAz 68 w z.g d.give
 pb:3<=s->qAz 68 w z.b d.back
 ow:w.ownsRow w0.heap.size 61 17 ov m css.flatten
 kv:KpX [61] wr w
 sz:wr.heap.size<=w.heap.size
 bel:Below w0.heap.size w0 w
section
variable {w0 wr w w':World}{b5 m:Nat}{d:Dc}{y z z':Ls}{s s':Nat}{ov:Value}{css:List (List Value)}
theorem EBx.keep(h:EBx w0 wr w b5 d y z s ov m css)(hb:Below w0.heap.size w w')(hk:KpX [61] w w')
 (hd:qAu w' (b5+1) 61 (dcC d z'))(ho:w'.ownsRow w0.heap.size 61 17 ov m css.flatten)(hx:z'.x=z.x)(pt:1<=s'->qAz 68 w' z'.t d.take)(pg:2<=s'->qAz 68 w' z'.g d.give)(pb:3<=s'->qAz 68 w' z'.b d.back):EBx w0 wr w' b5 d y z' s' ov m css:=
 ⟨h.lo,hk _ _ _ (by decide) h.src,hd,h.ly.kp hk (by decide) (by decide) (by decide),by rw[hx];exact h.lx.kp hk (by decide),pt,pg,pb,ho,h.kv.trans hk,Nat.le_trans h.sz hb.size,h.bel.trans hb⟩
theorem EBx.below(h:EBx w0 wr w b5 d y z s ov m css)(hb:Below w.heap.size w w'):EBx w0 wr w' b5 d y z s ov m css:=by
 have hk:=KpX.of_below (X:=[61]) hb;exact h.keep (hb.mono h.bel.size) hk (h.dst.below hb h.dst.lt) ((qAg.of_below (S:=fun _=>False) hb).own h.ow (fun _ _ h=>h)) rfl (fun a=>(h.pt a).kp hk (by decide)) (fun a=>(h.pg a).kp hk (by decide)) (fun a=>(h.pb a).kp hk (by decide))
theorem EBx.put(h:EBx w0 wr w b5 d y z s ov m css)(i:Nat)(u:Value)(he:(dcC d z).set i u=dcC d z')(hx:z'.x=z.x)(hne:ov.ownBlock≠some (b5+1))
 (pt:1<=s'->qAz 68 w z'.t d.take)(pg:2<=s'->qAz 68 w z'.g d.give)(pb:3<=s'->qAz 68 w z'.b d.back):EBx w0 wr (w.setCell ⟨b5+1,i,none⟩ u) b5 d y z' s' ov m css/\KpX [61] w (w.setCell ⟨b5+1,i,none⟩ u):=by
 have hk:KpX [61] w (w.setCell ⟨b5+1,i,none⟩ u):=KpX.set h.dst (by simp) u;have hb:Below w0.heap.size w (w.setCell ⟨b5+1,i,none⟩ u):=(Below.refl _ _).setCell (p:=⟨b5+1,i,none⟩) (by have:=h.lo;show _<=b5+1;omega) u;refine⟨h.keep hb hk (by rw[<-he];exact h.dst.set i u) ?_ hx (fun a=>(pt a).kp hk (by decide)) (fun a=>(pg a).kp hk (by decide)) (fun a=>(pb a).kp hk (by decide)),hk⟩;exact((qAg.refl (fun k=>k=b5+1) w).set (p:=⟨b5+1,i,none⟩) rfl u).own h.ow (fun k hk e=>hne (by rw[hk,e]))
theorem EBx.grow{rv:Value}(h:EBx w0 wr w b5 d y z s ov m css)(ho:qAg (fun b=>rv.ownBlock=some b) w w')(hb:Below w0.heap.size w0 w')(hk:KpX [58] w w')(hr:∀b,rv.ownBlock=some b->wr.heap.size<=b):EBx w0 wr w' b5 d y z s ov m css:=
 ⟨h.lo,hk _ _ _ (by decide) h.src,hk _ _ _ (by decide) h.dst,h.ly.kp hk (by decide) (by decide) (by decide),h.lx.kp hk (by decide),fun a=>(h.pt a).kp hk (by decide),fun a=>(h.pg a).kp hk (by decide),fun a=>(h.pb a).kp hk (by decide),qBG h.ow hk (by decide),h.kv.late ho h.sz hr,Nat.le_trans h.sz ho.size,hb⟩
end
theorem qFd:(Tryd.prog.info? 34).map (·.size)=some 17:=by kernel_rfl
theorem qFf:(Tryd.prog.info? 61).map (·.size)=some 17:=by kernel_rfl
theorem qJK(v:Value)(l:List Dc)(w:World)(h:qDd 74 30 34 w v l)(hl:l.length<=1000000)(hD:∀d∈l,qL3 d):
 Calls Tryd.prog 16 #[v] w fun e w'=>(∃u,e=.returned u/\qDd 68 58 61 w' u l)/\Below w.heap.size w w':=by
 obtain⟨a,cap,rfl, -,-⟩:=TSl.form h;have HA:=hZ h;have HD:=hZ hD;obtain⟨n,hn⟩:=eX l.length;rw[hn];rw[hn]at hl;have Hn:=hZ hn;clear h hn hD
 go_enter Tryd.func16,Tryd.ntmps16
 go_wp2_with fail
 go_loopw [3,4] (fun ov iv wr=>∃(k:Nat) (css:List (List Value)),k<=n/\iv=.int .i64 k/\Hid (wr.ownsRow w.heap.size 61 17 ov k css.flatten)/\Hid (css.length=(l.take k).length/\∀j (h:j<(l.take k).length) (h':j<css.length),qGw 68 58 wr css[j] (l.take k)[j])/\Hid (Below w.heap.size w wr)) (fun _ iv _=>n-(intOf iv).toNat)
 case atStart=>exact⟨0,[],by omega,rfl,hZ (World.ownsRow_nil _ _ _ _),hZ ⟨rfl,fun j h=>by simp at h⟩,hZ (Below.refl _ _)⟩
 case round=>
  obtain⟨k,css,hk,rfl,HO,HV,HB⟩:=hrel;obtain⟨wo,hwo⟩:∃W,W=wr:=⟨_,rfl⟩;subst hwo;by_cases hlt:k<n
  ·have h1:k<l.length:=by have:=Hn.o;omega
   obtain⟨g,o1,cp,cs,hv,hd0,hcl,hrow⟩:=qDd.nth (HA.o.kp (KpX.of_below (X:=[]) HB.o) (by simp) (by simp) (by simp) (by simp)) k h1;injection hv with hv hq1 hv2;subst hv hv2;have hDl:=HD.o _ (List.getElem_mem h1);have hT:l.take (k+1)=l.take k++[l[k]]:=List.take_succ_eq_append_getElem h1;obtain⟨d,hd⟩:=eX (l[k]);rw[hd]at hd0 hDl hT;have HDl:=hZ hDl;have HT:=hZ hT;have hTl:(l.take k).length=k:=by rw[List.length_take];omega
   obtain⟨acc,hacc⟩:=eX (l.take k);rw[hacc]at HV HT hTl;obtain⟨y,hcs,hy⟩:=hd0;subst hcs;obtain⟨r1,r2,hyr, -,-⟩:=TSl.form hy.r;obtain⟨x1,x2,hyx, -,-⟩:=TSl.form hy.x;have hlx:=hy.x;rw[hyx]at hlx;obtain⟨b5,hb5⟩:=eX wo.heap.size;have hi1:(Tryd.prog.info? 34).map (·.size)=some (dcC d y).length:=qFd;have hia:(Tryd.prog.info? 34).map (·.size)=some (dcC d y).toArray.size:=qFd;have hib:(Tryd.prog.info? 61).map (·.size)=some (dcC d ⟨.slice none 0 0,.slice none 0 0,.slice none 0 0,.slice none 0 0,.slice x1 d.brs.length x2⟩).toArray.size:=qFf;have hr1:qAu (wo.alloc (.cells #[Value.int IntKind.i64 0,Value.string { data:=#[] },Value.int IntKind.i64 0,Value.bool false,Value.bool false,Value.bool false,Value.int IntKind.i64 0,Value.int IntKind.i64 0,Value.int IntKind.i64 0,Value.int IntKind.i64 0,Value.int IntKind.i64 0,Value.int IntKind.i64 0,Value.slice none 0 0,Value.slice none 0 0,Value.slice none 0 0,Value.slice none 0 0,Value.slice none 0 0] 34)) b5 34 [Value.int IntKind.i64 0,Value.string { data:=#[] },Value.int IntKind.i64 0,Value.bool false,Value.bool false,Value.bool false,Value.int IntKind.i64 0,Value.int IntKind.i64 0,Value.int IntKind.i64 0,Value.int IntKind.i64 0,Value.int IntKind.i64 0,Value.int IntKind.i64 0,Value.slice none 0 0,Value.slice none 0 0,Value.slice none 0 0,Value.slice none 0 0,Value.slice none 0 0]:=by rw[<-hb5];exact qAu.new _ _ _
   have hon1:(dcC d y).toArray.all (·.oneCell')=true:=by rw[Array.all_eq_true_iff_forall_mem];intro u hu;exact qDQ hy u (by simpa using hu)
   have hon2:(dcC d ⟨.slice none 0 0,.slice none 0 0,.slice none 0 0,.slice none 0 0,.slice x1 d.brs.length x2⟩).toArray.all (·.oneCell')=true:=by
    simp[dcC,Value.oneCell']
   have hz1:(dcC d y).toArray.size=17:=rfl;have hz2:(dcC d ⟨.slice none 0 0,.slice none 0 0,.slice none 0 0,.slice none 0 0,.slice x1 d.brs.length x2⟩).toArray.size=17:=rfl;obtain⟨w1,hw1⟩:=eX ((wo.alloc (.cells #[Value.int IntKind.i64 0,Value.string { data:=#[] },Value.int IntKind.i64 0,Value.bool false,Value.bool false,Value.bool false,Value.int IntKind.i64 0,Value.int IntKind.i64 0,Value.int IntKind.i64 0,Value.int IntKind.i64 0,Value.int IntKind.i64 0,Value.int IntKind.i64 0,Value.slice none 0 0,Value.slice none 0 0,Value.slice none 0 0,Value.slice none 0 0,Value.slice none 0 0] 34)).setRow b5 (dcC d y).toArray);have hE1:qAu w1 b5 34 (dcC d y):=by rw[<-hw1];exact setRow_heap _ _ _ _ _ _ hr1
   have hB1:Below wo.heap.size wo w1:=by rw[<-hw1];exact below_setRow (qAa _ _) (by omega) _
   have hs1:w1.heap.size=b5+1:=by rw[<-hw1,<-hb5];simp
   have hr2:qAu (w1.alloc (.cells #[Value.int IntKind.i64 0,Value.string { data:=#[] },Value.int IntKind.i64 0,Value.bool false,Value.bool false,Value.bool false,Value.int IntKind.i64 0,Value.int IntKind.i64 0,Value.int IntKind.i64 0,Value.int IntKind.i64 0,Value.int IntKind.i64 0,Value.int IntKind.i64 0,Value.slice none 0 0,Value.slice none 0 0,Value.slice none 0 0,Value.slice none 0 0,Value.slice none 0 0] 61)) (b5+1) 61 [Value.int IntKind.i64 0,Value.string { data:=#[] },Value.int IntKind.i64 0,Value.bool false,Value.bool false,Value.bool false,Value.int IntKind.i64 0,Value.int IntKind.i64 0,Value.int IntKind.i64 0,Value.int IntKind.i64 0,Value.int IntKind.i64 0,Value.int IntKind.i64 0,Value.slice none 0 0,Value.slice none 0 0,Value.slice none 0 0,Value.slice none 0 0,Value.slice none 0 0]:=by rw[<-hs1];exact qAu.new _ _ _
   obtain⟨w2,hw2⟩:=eX ((w1.alloc (.cells #[Value.int IntKind.i64 0,Value.string { data:=#[] },Value.int IntKind.i64 0,Value.bool false,Value.bool false,Value.bool false,Value.int IntKind.i64 0,Value.int IntKind.i64 0,Value.int IntKind.i64 0,Value.int IntKind.i64 0,Value.int IntKind.i64 0,Value.int IntKind.i64 0,Value.slice none 0 0,Value.slice none 0 0,Value.slice none 0 0,Value.slice none 0 0,Value.slice none 0 0] 61)).setRow (b5+1) (dcC d ⟨.slice none 0 0,.slice none 0 0,.slice none 0 0,.slice none 0 0,.slice x1 d.brs.length x2⟩).toArray);have hE2:qAu w2 (b5+1) 61 (dcC d ⟨.slice none 0 0,.slice none 0 0,.slice none 0 0,.slice none 0 0,.slice x1 d.brs.length x2⟩):=by rw[<-hw2];exact setRow_heap _ _ _ _ _ _ hr2
   have hB2:Below w1.heap.size w1 w2:=by rw[<-hw2];exact below_setRow (qAa _ _) (by omega) _
   have hB12:Below wo.heap.size wo w2:=hB1.trans (hB2.mono hB1.size);have hk12:=KpX.of_below (X:=[]) hB12;have Hne:Hid (¬Value.ownBlock _=some (b5+1)):=hZ (fun e=>by have:=(HO.o.lt (b5+1) e).2;omega);have HXw2:Hid (EBx w wo w2 b5 d y ⟨.slice none 0 0,.slice none 0 0,.slice none 0 0,.slice none 0 0,.slice x1 d.brs.length x2⟩ 0 _ k css):=hZ ⟨by have:=HB.o.size;omega,hE1.below hB2 (by omega),hE2,hy.kp hk12 (by simp) (by simp) (by simp),hlx.kp hk12 (by simp),fun h=>absurd h (by decide),fun h=>absurd h (by decide),fun h=>absurd h (by decide),(qAg.of_below (S:=fun _=>False) hB12).own HO.o (fun _ _ h=>h),KpX.of_below hB12,hB12.size,HB.o.trans (hB12.mono HB.o.size)⟩;have Hbr:Hid (wo.heap.size=b5):=hZ hb5;have m0:w1.cell? ⟨b5,0,none⟩=some (.int .i64 d.kind):=hE1.cell 0;have m1:w1.cell? ⟨b5,1,none⟩=some (.string ⟨d.name.toArray⟩):=hE1.cell 1;have m2:w1.cell? ⟨b5,2,none⟩=some (.int .i64 d.at_):=hE1.cell 2;have m3:w1.cell? ⟨b5,3,none⟩=some (.bool d.object):=hE1.cell 3;have m4:w1.cell? ⟨b5,4,none⟩=some (.bool d.mixed):=hE1.cell 4;have m5:w1.cell? ⟨b5,5,none⟩=some (.bool d.coin):=hE1.cell 5;have m6:w1.cell? ⟨b5,6,none⟩=some (.int .i64 d.wear):=hE1.cell 6;have m7:w1.cell? ⟨b5,7,none⟩=some (.int .i64 d.bind):=hE1.cell 7;have m8:w1.cell? ⟨b5,8,none⟩=some (.int .i64 d.level):=hE1.cell 8;have m9:w1.cell? ⟨b5,9,none⟩=some (.int .i64 d.time):=hE1.cell 9;have m10:w1.cell? ⟨b5,10,none⟩=some (.int .i64 d.chance):=hE1.cell 10;have m11:w1.cell? ⟨b5,11,none⟩=some (.int .i64 d.of_):=hE1.cell 11;have m16:w1.cell? ⟨b5,16,none⟩=some (.slice x1 d.brs.length x2):=(hE1.cell 16).trans (by rw[<-hyx];rfl);have hn0:(0:Int)<=(k:Int):=by omega
   have hn1:(k:Int)<(n:Int):=by omega
   have HC1:=hZ (qEe y.t d.take w2 HXw2.o.ly.t HDl.o.1);have s12:w2.cell? ⟨b5,12,none⟩=some y.t:=HXw2.o.src.cell 12;clear hB1 hE1 hE2 hB2 hB12 hk12 hy hDl hT HO HB hd hacc hq1 hcl h1
   go_wp2_with (first|refine qAY rfl _ _ rfl g (o1+k*17) rfl (dcC d y) _ hrow Tryd.underlying34 rfl hi1 ?_|(refine wpList_store_row rfl _ _ _ rfl b5 (dcC d y).toArray rfl rfl _ _ hr1 hia hz1.symm hon1 ?_;rw[hw1])|(refine wpList_store_row rfl _ _ _ rfl (b5+1) (dcC d ⟨.slice none 0 0,.slice none 0 0,.slice none 0 0,.slice none 0 0,.slice x1 d.brs.length x2⟩).toArray rfl rfl _ _ hr2 hib hz2.symm hon2 ?_;rw[hw2]))
   clear hw1 hw2 hr1 hr2 hi1 hia hib hon1 hon2 hz1 hz2 hs1 hrow hb5 m0 m1 m2 m3 m4 m5 m6 m7 m8 m9 m10 m11 m16;refine HC1.o.mono ?_;rintro e w3 ⟨⟨u1,rfl,hu1⟩,hB1⟩;have HXw3:=hZ (HXw2.o.below hB1);obtain⟨a1,p1,rfl, -,-⟩:=TSl.form hu1;have k1:w3.cell? ⟨b5+1,12,none⟩=some (.slice none 0 0):=HXw3.o.dst.cell 12;have f1:w3.frozen? ⟨b5+1,12,none⟩=false:=HXw3.o.dst.frozen 12;have hq:=HXw3.o.put (z':=⟨.slice a1 d.take.length p1,.slice none 0 0,.slice none 0 0,(.slice none 0 0),(.slice x1 d.brs.length x2)⟩) (s':=1) 12 (.slice a1 d.take.length p1) rfl rfl Hne.o (fun _=>hu1) (fun h=>absurd h (by decide)) (fun h=>absurd h (by decide));obtain⟨w4,hw4⟩:=eX (w3.setCell ⟨b5+1,12,none⟩ (.slice a1 d.take.length p1));rw[hw4]at hq;have HXw4:=hZ hq.1;clear hq hu1 hB1 HC1 HXw2 HXw3 s12;have HC2:=hZ (qEe y.g d.give w4 HXw4.o.ly.g HDl.o.2.1);have s13:w4.cell? ⟨b5,13,none⟩=some y.g:=HXw4.o.src.cell 13
   go_wp2_with fail
   clear hw4 k1 f1;refine HC2.o.mono ?_;rintro e w5 ⟨⟨u2,rfl,hu2⟩,hB2⟩;have HXw5:=hZ (HXw4.o.below hB2);obtain⟨a2,p2,rfl, -,-⟩:=TSl.form hu2;have k2:w5.cell? ⟨b5+1,13,none⟩=some (.slice none 0 0):=HXw5.o.dst.cell 13;have f2:w5.frozen? ⟨b5+1,13,none⟩=false:=HXw5.o.dst.frozen 13;have hq:=HXw5.o.put (z':=⟨.slice a1 d.take.length p1,.slice a2 d.give.length p2,.slice none 0 0,(.slice none 0 0),(.slice x1 d.brs.length x2)⟩) (s':=2) 13 (.slice a2 d.give.length p2) rfl rfl Hne.o (fun _=>HXw5.o.pt (by decide)) (fun _=>hu2) (fun h=>absurd h (by decide));obtain⟨w6,hw6⟩:=eX (w5.setCell ⟨b5+1,13,none⟩ (.slice a2 d.give.length p2));rw[hw6]at hq;have HXw6:=hZ hq.1;clear hq hu2 hB2 HC2 HXw4 HXw5 s13;have HC3:=hZ (qEe y.b d.back w6 HXw6.o.ly.b HDl.o.2.2.1);have s14:w6.cell? ⟨b5,14,none⟩=some y.b:=HXw6.o.src.cell 14
   go_wp2_with fail
   clear hw6 k2 f2;refine HC3.o.mono ?_;rintro e w7 ⟨⟨u3,rfl,hu3⟩,hB3⟩;have HXw7:=hZ (HXw6.o.below hB3);obtain⟨a3,p3,rfl, -,-⟩:=TSl.form hu3;have k3:w7.cell? ⟨b5+1,14,none⟩=some (.slice none 0 0):=HXw7.o.dst.cell 14;have f3:w7.frozen? ⟨b5+1,14,none⟩=false:=HXw7.o.dst.frozen 14;have hq:=HXw7.o.put (z':=⟨.slice a1 d.take.length p1,.slice a2 d.give.length p2,.slice a3 d.back.length p3,(.slice none 0 0),(.slice x1 d.brs.length x2)⟩) (s':=3) 14 (.slice a3 d.back.length p3) rfl rfl Hne.o (fun _=>HXw7.o.pt (by decide)) (fun _=>HXw7.o.pg (by decide)) (fun _=>hu3);obtain⟨w8,hw8⟩:=eX (w7.setCell ⟨b5+1,14,none⟩ (.slice a3 d.back.length p3));rw[hw8]at hq;have HXw8:=hZ hq.1;clear hq hu3 hB3 HC3 HXw6 HXw7 s14;have s15:w8.cell? ⟨b5,15,none⟩=some (.slice r1 d.rows.length r2):=(HXw8.o.src.cell 15).trans (by rw[<-hyr];rfl)
   go_wp2_with fail
   clear hw8 k3 f3;obtain⟨rn,hrn⟩:=eX d.rows.length;have HRn:=hZ hrn;have HYr:Hid ((dcC d y)[15]? =some (.slice r1 rn r2)):=hZ (by rw[<-hrn,<-hyr];rfl);have hrm:rn<=1000000:=by have:=HDl.o.2.2.2.1;omega
   rw[hrn]at s15;clear hrn hyr hyx hlx s15
   go_loopw [7] (fun iv wr=>∃(j:Nat) (us:List Value) (rv:Value),j<=rn/\iv=.int .i64 j/\Hid (EBx w wo wr b5 d y ⟨.slice a1 d.take.length p1,.slice a2 d.give.length p2,.slice a3 d.back.length p3,rv,.slice x1 d.brs.length x2⟩ 3 _ k css)/\Hid (wr.ownsRow wo.heap.size 58 1 rv j us)/\Hid (qDR 68 wr us (d.rows.take j))) (fun iv _=>rn-(intOf iv).toNat)
   case atStart=>exact⟨0,[],_,by omega,rfl,HXw8,hZ (World.ownsRow_nil _ _ _ _),hZ (qDR.nil _ _)⟩
   case round=>
    clear HXw8;obtain⟨j,us,rv,hj,rfl,HX,HW,HU⟩:=hrel;by_cases hjl:j<rn
    ·have h2:j<d.rows.length:=by have:=HRn.o;omega
     obtain⟨gr,o2,cpr,csr,ur,hv,hbr,hur0,hpr⟩:=qAX.nthB HX.o.ly.r j h2;have HYR:Hid ((dcC d y)[15]? =some (.slice (some ⟨gr,o2,none⟩) rn r2)):=hZ (by
      have h9:=HYr.o;have h8:(dcC d y)[15]? =some y.r:=rfl;rw[h8,hv]at h9;injection h9 with h9;injection h9 with e1 e2 e3;rw[h8,hv,e2,e3])
     have HUR:=hZ hur0;obtain⟨r,hr⟩:=eX (d.rows[j]);rw[hr]at hpr;have HTR:Hid (d.rows.take (j+1)=d.rows.take j++[r]):=hZ (by rw[<-hr];exact List.take_succ_eq_append_getElem h2);have hrl:r.length<=1000000:=by rw[<-hr];exact HDl.o.2.2.2.2.2 _ (List.getElem_mem h2)
     have q1:wr.cell? ⟨b5+1,15,none⟩=some rv:=HX.o.dst.cell 15;have q2:wr.cell? ⟨b5,15,none⟩=some (.slice (some ⟨gr,o2,none⟩) rn r2):=(HX.o.src.cell 15).trans HYR.o;have q3:wr.cell? ⟨gr,o2+j,none⟩=some ur:=by rw[cell_of_row _ gr (o2+j) _ _ _ hbr];exact HUR.o
     obtain⟨wd,hwd⟩:=eX wr.drew;have hBd:Below wr.heap.size wr wd:=by rw[<-hwd];exact(Below.refl _ _).drew
     have HXd:=hZ (HX.o.below hBd);have HWd:=hZ ((qAg.of_below (S:=fun _=>False) hBd).own HW.o (fun _ _ h=>h));have HUd:=hZ (HU.o.kp (KpX.of_below (X:=[]) hBd) (by simp));have Hbd:=hZ ((hBd.block gr (qAo hbr)).trans hbr);have HC:=hZ (qEe ur r wd (hpr.kp (KpX.of_below (X:=[]) hBd) (by simp)) hrl);have hm0:(0:Int)<=(j:Int):=by omega
     have hm1:(j:Int)<(rn:Int):=by omega
     clear hBd hpr hr h2 hv hur0 hrl HX HW HU
     go_wp2_with fail
     refine qAr [11] (fun W=>W.cell? ⟨b5+1,15,none⟩=some rv/\W.cell? ⟨b5,15,none⟩=some (.slice (some ⟨gr,o2,none⟩) rn r2)/\W.cell? ⟨gr,o2+j,none⟩=some ur) (by kernel_rfl) (⟨q1,q2,q3⟩) (fun hHeld=> ?_);rw[hwd]at hHeld ⊢;clear hwd q1 q2 q3 hbr;refine pU 0 64 ?_;refine qAb 1 65 (v:= ?_) rfl rfl (by kernel_rfl) (by kernel_rfl) (by kernel_rfl) (by kernel_rfl) (by kernel_rfl) (fun _ _ _ h=>h) (by rfl) ?_ (by assumption) ?_;rotate_left
     ·(intro w hSw;go_simp;first|done|with_reducible rfl)
     simp only[sX1,sX2,sX3];refine pU 2 66 ?_;refine qAb 3 67 (v:= ?_) rfl rfl (by kernel_rfl) (by kernel_rfl) (by kernel_rfl) (by kernel_rfl) (by kernel_rfl) (fun _ _ _ h=>h) (by rfl) ?_ (by assumption) ?_;rotate_left
     ·(intro w hSw;go_simp;first|done|with_reducible rfl)
     simp only[sX1,sX2,sX3];refine pU 4 68 ?_;refine pU 5 69 ?_;refine qAb 6 70 (v:= ?_) rfl rfl (by kernel_rfl) (by kernel_rfl) (by kernel_rfl) (by kernel_rfl) (by kernel_rfl) (fun _ _ _ h=>h) (by rfl) ?_ (by assumption) ?_;rotate_left
     ·(intro w hSw;go_simp;first|done|with_reducible rfl)
     simp only[sX1,sX2,sX3];refine eU 7 fun K hK=> ?_;go_simp;refine HC.o.mono ?_;rintro e w11 ⟨⟨u9,rfl,hu9⟩,hB9⟩;obtain⟨a9,p9,rfl, -,-⟩:=TSl.form hu9;have HX9:=hZ (HXd.o.below hB9);have HW9:=hZ ((qAg.of_below (S:=fun _=>False) hB9).own HWd.o (fun _ _ h=>h));have HU9:=hZ (HUd.o.kp (KpX.of_below (X:=[]) hB9) (by simp));have Hb9:=hZ ((hB9.block gr (qAo Hbd.o)).trans Hbd.o);have HP9:=hZ hu9;obtain⟨w12,hw12⟩:=eX (w11.alloc (.cells #[.slice a9 r.length p9] 58));have hB12:Below w11.heap.size w11 w12:=by rw[<-hw12];exact qAa _ _
     have HE12:Hid (qAu w12 w11.heap.size 58 [.slice a9 r.length p9]):=hZ (by rw[<-hw12];exact qAu.new _ _ _);have HX12:=hZ (HX9.o.below hB12);have HW12:=hZ ((qAg.of_below (S:=fun _=>False) hB12).own HW9.o (fun _ _ h=>h));have HU12:=hZ ((HU9.o.kp (KpX.of_below (X:=[]) hB12) (by simp)).snoc (hu9.kp (KpX.of_below (X:=[]) hB12) (by simp)));have Hb12:=hZ ((hB12.block gr (qAo Hb9.o)).trans Hb9.o);have h9S:(fun W=>W.cell? ⟨b5+1,15,none⟩=some rv/\W.cell? ⟨b5,15,none⟩=some (.slice (some ⟨gr,o2,none⟩) rn r2)/\W.cell? ⟨gr,o2+j,none⟩=some ur) w11:=⟨HX9.o.dst.cell 15,(HX9.o.src.cell 15).trans HYR.o,by rw[cell_of_row _ gr (o2+j) _ _ _ Hb9.o];exact HUR.o⟩;clear hB9 hB12 hu9 HC HXd HWd HUd Hbd hHeld
     go_wp2_with fail
     refine hK.out _ _ (h9S) (fun hHeld=> ?_);clear hK K
     try simp only[Act.put,sX1,sX2,sX3]
     clear h9S;have h12S:(fun W=>W.cell? ⟨b5+1,15,none⟩=some rv/\W.cell? ⟨b5,15,none⟩=some (.slice (some ⟨gr,o2,none⟩) rn r2)/\W.cell? ⟨gr,o2+j,none⟩=some ur) w12:=⟨HX12.o.dst.cell 15,(HX12.o.src.cell 15).trans HYR.o,by rw[cell_of_row _ gr (o2+j) _ _ _ Hb12.o];exact HUR.o⟩;refine eU 8 fun K hK=> ?_;go_simp;clear hw12
     go_wp2_with fail
     refine hK.out _ _ (h12S) (fun hHeld=> ?_);clear hK K
     try simp only[Act.put,sX1,sX2,sX3]
     clear h12S hHeld;refine eU 9 fun K hK=> ?_;refine qBx (W0:=w12) qFK rfl _ _ rfl [.slice a9 r.length p9] w11.heap.size _ _ _ rfl rfl HE12.o rfl (by simp[Value.oneCell']) HW12.o (Below.refl _ _) HX12.o.sz (by omega) (by omega) ?_;intro g13 cap13 w13 HW13 HB13 HF13 hcap13 hcap13b;have HK13:=hZ (KpX.own (X:=[58]) HW12.o HF13.o (by simp));have HU13:=hZ (HU12.o.kp HK13.o (by decide));have HB13':Below w.heap.size w w13:=HF13.o.below HX12.o.bel HX12.o.bel.size (fun b e=>by have:=(HW12.o.lt b e).1;have:=HX12.o.lo;have:=Hbr.o;omega);have HX13:=hZ (HX12.o.grow HF13.o HB13' HK13.o (fun b e=>(HW12.o.lt b e).1));have e13:w13.cell? ⟨b5+1,15,none⟩=some rv:=HX13.o.dst.cell 15;have f13:w13.frozen? ⟨b5+1,15,none⟩=false:=HX13.o.dst.frozen 15;have h13S:(fun W=>W.cell? ⟨b5+1,15,none⟩=some rv/\W.cell? ⟨b5,15,none⟩=some (.slice (some ⟨gr,o2,none⟩) rn r2)/\W.cell? ⟨gr,o2+j,none⟩=some ur) w13:=⟨e13,(HX13.o.src.cell 15).trans HYR.o,by rw[cell_of_row _ gr (o2+j) _ _ _ (HK13.o _ _ _ (by decide) Hb12.o)];exact HUR.o⟩;rw[<-HTR.o]at HU13;have hq:=HX13.o.put (z':=⟨.slice a1 d.take.length p1,.slice a2 d.give.length p2,.slice a3 d.back.length p3,.slice (some ⟨g13,0,none⟩) (j+1) cap13,.slice x1 d.brs.length x2⟩) (s':=3) 15 (.slice (some ⟨g13,0,none⟩) (j+1) cap13) rfl rfl Hne.o HX13.o.pt HX13.o.pg HX13.o.pb;obtain⟨w14,hw14⟩:=eX (w13.setCell ⟨b5+1,15,none⟩ (.slice (some ⟨g13,0,none⟩) (j+1) cap13));rw[hw14]at hq;have HX14:=hZ hq.1;have HW14:=hZ (qBG HW13.o hq.2 (by decide));have HU14:=hZ (HU13.o.kp hq.2 (by decide));clear hq HX12 HX13 HW12 HW13 HU12 HU13 HB13 HB13' HF13 HK13 HE12 Hb12 Hb9 HX9 HW9 HU9 HP9 hcap13 hcap13b
     go_wp2_with fail
     refine hK.out _ _ (h13S) (fun hHeld=> ?_);clear hK K
     try simp only[Act.put,sX1,sX2,sX3]
     clear h13S;refine pU 10 74 ?_;refine lU 11 fun K hK=> ?_;go_simp;refine hK.out _ _ ?_;clear hK K
     try simp only[Act.put,sX1,sX2,sX3]
     refine dU ?_;clear hHeld;clear hw14 e13 f13
     go_wp2_with fail
     go_roundw
     case rel=>exact⟨j+1,_,_,by omega,by go_num,HX14,HW14,HU14⟩
     case measure=>simp[intOf];omega
    ·have hjn:j=rn:=by omega
     have hm1:¬(j:Int)<(rn:Int):=by omega
     have HR9:Hid (qAX 68 58 wr rv d.rows):=hZ (by
      have h8:=HU.o;have h9:=HW.o;rw[hjn,<-HRn.o,List.take_length]at h8;rw[hjn,<-HRn.o]at h9;exact h8.rows h9)
     obtain⟨rv1,rv2,e9, -,-⟩:=TSl.form HR9.o;have hcl:wr.cell? ⟨b5,15,none⟩=some (.slice r1 rn r2):=(HX.o.src.cell 15).trans HYr.o;have hrow2:qCX wr (b5+1) 0 (dcC d ⟨.slice a1 d.take.length p1,.slice a2 d.give.length p2,.slice a3 d.back.length p3,rv,.slice x1 d.brs.length x2⟩):=fun jj x hx=>by rw[Nat.zero_add];exact(HX.o.dst.cell jj).trans hx
     have hi2:(Tryd.prog.info? 61).map (·.size)=some (dcC d ⟨.slice a1 d.take.length p1,.slice a2 d.give.length p2,.slice a3 d.back.length p3,rv,.slice x1 d.brs.length x2⟩).length:=qFf;have hon:=qDQ (e:=68) (et:=58) (w:=wr) (d:=d) (y:=⟨.slice a1 d.take.length p1,.slice a2 d.give.length p2,.slice a3 d.back.length p3,rv,.slice x1 d.brs.length x2⟩) ⟨HX.o.pt (by decide),HX.o.pg (by decide),HX.o.pb (by decide),HR9.o,HX.o.lx⟩;have hsz:(dcC d ⟨.slice a1 d.take.length p1,.slice a2 d.give.length p2,.slice a3 d.back.length p3,rv,.slice x1 d.brs.length x2⟩).length=17:=rfl;have hfold:List.foldl (fun(cs:Array Value) x=>cs.setIfInBounds x.snd x.fst) #[Value.int IntKind.i64 0,Value.string { data:=#[] },Value.int IntKind.i64 0,Value.bool false,Value.bool false,Value.bool false,Value.int IntKind.i64 0,Value.int IntKind.i64 0,Value.int IntKind.i64 0,Value.int IntKind.i64 0,Value.int IntKind.i64 0,Value.int IntKind.i64 0,Value.slice none 0 0,Value.slice none 0 0,Value.slice none 0 0,Value.slice none 0 0,Value.slice none 0 0] (dcC d ⟨.slice a1 d.take.length p1,.slice a2 d.give.length p2,.slice a3 d.back.length p3,rv,.slice x1 d.brs.length x2⟩).zipIdx=(dcC d ⟨.slice a1 d.take.length p1,.slice a2 d.give.length p2,.slice a3 d.back.length p3,rv,.slice x1 d.brs.length x2⟩).toArray:=qEi (dcC d ⟨.slice a1 d.take.length p1,.slice a2 d.give.length p2,.slice a3 d.back.length p3,rv,.slice x1 d.brs.length x2⟩) [] [Value.int IntKind.i64 0,Value.string { data:=#[] },Value.int IntKind.i64 0,Value.bool false,Value.bool false,Value.bool false,Value.int IntKind.i64 0,Value.int IntKind.i64 0,Value.int IntKind.i64 0,Value.int IntKind.i64 0,Value.int IntKind.i64 0,Value.int IntKind.i64 0,Value.slice none 0 0,Value.slice none 0 0,Value.slice none 0 0,Value.slice none 0 0,Value.slice none 0 0] hsz.symm;have HDC:Hid (qGw 68 58 wr (dcC d ⟨.slice a1 d.take.length p1,.slice a2 d.give.length p2,.slice a3 d.back.length p3,rv,.slice x1 d.brs.length x2⟩) d):=hZ ⟨_,rfl,⟨HX.o.pt (by decide),HX.o.pg (by decide),HX.o.pb (by decide),HR9.o,HX.o.lx⟩⟩;obtain⟨cs,hcs⟩:=eX (dcC d ⟨.slice a1 d.take.length p1,.slice a2 d.give.length p2,.slice a3 d.back.length p3,rv,.slice x1 d.brs.length x2⟩);rw[hcs]at hrow2 hi2 hon hsz hfold HDC;have HO9:=hZ HX.o.ow;have HBe:=hZ HX.o.bel;have HKv:=hZ HX.o.kv;clear hcs HX HW HU HR9 e9 hjn
     go_wp2_with (first|refine qAY rfl _ _ rfl (b5+1) 0 rfl cs _ hrow2 Tryd.underlying61 rfl hi2 ?_|(at_builtin;refine qA2 (W0:=wr) qK4 rfl _ _ rfl cs 61 _ _ _ rfl rfl hsz hon HO9.o (Below.refl _ _) HBe.o.size (by omega) (by omega) ?_))
     intro g6 cap6 w6 HO6 HB6 HW6 hcap6 hat6;have HK6:=hZ (KpX.own (X:=[61]) HO9.o HW6.o (by simp));have HV6:Hid ((css++[cs]).length=(l.take (k+1)).length/\∀j (h:j<(l.take (k+1)).length) (h':j<(css++[cs]).length),qGw 68 58 w6 (css++[cs])[j] (l.take (k+1))[j]):=hZ (by
      have hk9:=HKv.o.trans HK6.o;simp only[HT.o];refine⟨by simp[HV.o.1],fun jj a b=> ?_⟩;have hl9:=HV.o.1;by_cases hx:jj<acc.length
      ·rw[List.getElem_append_left hx,List.getElem_append_left (by omega)]
       exact(HV.o.2 jj hx (by omega)).kp hk9 (by decide) (by decide) (by decide)
      ·have h3:jj=acc.length:=by simp at a;omega
       subst h3;rw[List.getElem_append_right (Nat.le_refl _),List.getElem_append_right (by omega)];simpa[hl9]using HDC.o.kp HK6.o (by decide) (by decide) (by decide))
     have HB7:=hZ (HBe.o.trans HB6.o);have hfl:css.flatten++cs=(css++[cs]).flatten:=by simp
     rw[hfl]at HO6;clear hfl hfold hon hsz hrow2 hi2 HO9 HBe HKv HK6 HW6 HB6 HDC HV hcap6 hat6 hcl hm1;obtain⟨css',hcss'⟩:∃c,css++[cs]=c:=⟨_,rfl⟩;rw[hcss']at HO6 HV6;clear hcss'
     go_wp2_with fail
     go_roundw
     case rel=>exact⟨k+1,css',by omega,by go_num,HO6,HV6,HB7⟩
     case measure=>simp[intOf];omega
  ·have hn1:¬(k:Int)<(n:Int):=by omega
   have hkn:k=n:=by omega
   have HP:Hid (qDd 68 58 61 wo _ l):=hZ (by
    have h8:=HV.o;have h9:=HO.o;have hT:l.take k=l:=by rw[hkn,<-Hn.o,List.take_length]
    simp only[hT]at h8;rw[hkn,<-Hn.o]at h9;refine TSl.of_own (css:=css) (base:=w.heap.size) (n:=l.length) h9 rfl (fun cs hc=> ?_) h8.1 (fun j a b=>h8.2 j a b);obtain⟨j,hj,rfl⟩:=List.mem_iff_getElem.1 hc;obtain⟨y,hy,-⟩:=h8.2 j (by rw[<-h8.1];exact hj) hj;rw[hy];rfl)
   clear HO HV hkn
   go_wp2_with fail
   go_ret;exact⟨⟨_,rfl,HP.o⟩,HB.o⟩
theorem qDq(l:List Pr):qAx (stL l)=qAx l:=by
 unfold qAx stL;rw[List.all_map];rfl
theorem qHn(l:List Pr):okL (stL l)=okL l:=by
 unfold okL stL;rw[List.all_map];rfl
theorem qJ7(r:List Pr):rowOk (stL r)=rowOk r:=by cases r<;>rfl
theorem qIz(r:List Pr):(stL r).tail=stL r.tail:=by cases r<;>rfl
theorem qK3(r:List Pr):(stL r).isEmpty=r.isEmpty:=by cases r<;>rfl
theorem qKA(r:List Pr):qEZ (stL r)=qEZ r:=by cases r<;>rfl
theorem qII(d:Dc):qAL d.st=qAL d:=by
 have h1:qBH d.st=qBH d:=rfl;have h2:qBQ d.st=qBQ d:=by unfold qBQ Dc.st;simp only[qK3]
 have h3:d.st.rows.isEmpty=d.rows.isEmpty:=by show(d.rows.map stL).isEmpty=_;cases d.rows<;>rfl
 have h4:d.st.rows.all rowOk=d.rows.all rowOk:=by
  show(d.rows.map stL).all rowOk=_
  rw[List.all_map];exact congrArg (fun f=>d.rows.all f) (funext fun r=>qJ7 r)
 unfold qAL;rw[h1,h2,h3,h4];rfl
theorem qKp(d:Dc):qC9 d.st=qC9 d:=by
 have h4:d.st.rows.all (fun r=>qAx r.tail)=d.rows.all (fun r=>qAx r.tail):=by
  show(d.rows.map stL).all _=_
  rw[List.all_map];exact congrArg (fun f=>d.rows.all f) (funext fun r=>by show qAx (stL r).tail=_;rw[qIz,qDq])
 unfold qC9;rw[h4]
 show(qBA d.name && (qAx (stL d.take) && qAx (stL d.give) && qAx (stL d.back)) && _)=_
 rw[qDq,qDq,qDq]
theorem qIk(d:Dc):qBb d.st=qBb d:=by
 have h4:d.st.rows.all okL=d.rows.all okL:=by
  show(d.rows.map stL).all _=_
  rw[List.all_map];exact congrArg (fun f=>d.rows.all f) (funext fun r=>qHn r)
 unfold qBb;rw[h4]
 show(qAi d.wear && qAi d.level && qAi d.time && qAi d.chance && qAi d.of_ && okL (stL d.take) && okL (stL d.give) && okL (stL d.back) && _ && _)=_
 rw[qHn,qHn,qHn];rfl
theorem qJv(d:Dc):qDO d.st=qDO d:=by
 unfold qDO;rw[qII,qKp,qIk]
theorem qIX:∀(l:List Pr) (b:Bool),prL b (stL l)=prL b l
 |[],_=>rfl
 |p::l,b=>by
  have:=qIX l true
  show prL b (p.st::stL l)=_
  rw[prL,prL,this];rfl
theorem qEx(w:Bs)(l:List Pr):qAw w (stL l)=qAw w l:=by
 unfold qAw;rw[qK3,qIX]
theorem qFZ:∀(l:List (List Pr)) (b:Bool),qAp b (l.map stL)=qAp b l
 |[],_=>rfl
 |r::l,b=>by
  rw[List.map_cons,qAp,qAp,qFZ l true,qKA,qIz,qIX]
theorem qI0(d:Dc):qAf d.st=qAf d:=by
 unfold qAf
 show(if d.kind=0 then _ else if d.kind<=2 then [_,_,_,qAw qDg (stL d.take),qAw qDh (stL d.give),qAw qDi (stL d.back)]else [qAp false (d.rows.map stL)++_])=_
 rw[qEx,qEx,qEx,qFZ];rfl
theorem qFH(d:Dc)(k:Nat):qBd d.st k=qBd d k:=by
 unfold qBd;rw[qI0];rfl
theorem qKS{l m:List Dc}(h:l.map Dc.st=m.map Dc.st){d:Dc}(hd:d∈l):∃x∈m,x.st=d.st:=by
 have:d.st∈m.map Dc.st:=by rw[<-h];exact List.mem_map_of_mem hd
 obtain⟨x,h1,h2⟩:=List.mem_map.1 this;exact⟨x,h1,h2⟩
theorem qHa{l m:List Dc}(h:l.map Dc.st=m.map Dc.st):qAQ l=qAQ m:=by
 have e:∀l:List Dc,qAQ l=((l.map Dc.st).map (fun d=>qBd d 0)).flatten:=fun l=>by
  unfold qAQ;rw[List.map_map];refine congrArg List.flatten (List.map_congr_left fun d _=> ?_);exact(qFH d 0).symm
 rw[e l,e m,h]
theorem qHC:∀l:List Dc,(∀d∈l,qDO d=0)->qJT l=0
 |[],_=>rfl
 |d::l,h=>by rw[qJT,if_pos (h d (by simp)),qHC l (fun x hx=>h x (by simp[hx]))]
theorem qIV{l:List Dc}(h:∀d∈l,qDO d=0)(hl:(qAQ l).length<=8192):qCm l=(qAQ l,0):=by
 unfold qCm;rw[if_pos (qHC l h),if_neg (by omega)]
theorem qEn(l:List Dc):qAQ l=qAK (l.map fun d=>(d,0)):=by
 unfold qAQ qAK;rw[List.map_map];rfl
theorem Gd.dl{d:Dc}(h:Gd d):DL 8192 d:=by
 have h1:=h.tk.1;have h2:=h.gv.1;have h3:=h.bk.1;have h4:=h.rl;have h5:=h.bl;refine⟨by omega,by omega,by omega,by omega,by omega,fun r hr=> ?_⟩;obtain⟨n,l,rfl, -,h6⟩:=h.rw r hr;have:=h6.1;simp;omega
theorem qCP(l:List (Dc×Nat))(h:∀x∈l,Gd x.1)(hl:l.length<=20):∃ds,qAj (qAK l)=.ok ds/\ds.map Dc.st=l.map (fun x=>x.1.st):=by
 have:=qBw l h;exact qH6 l (fun x hx=>(h x hx).err) (by omega)
theorem qHq{l m:List Dc}(h:∀d∈l,Gd d)(e:m.map Dc.st=l.map Dc.st):∀d∈m,qDO d=0:=fun d hd=>by
 obtain⟨x,hx,h1⟩:=qKS e hd;rw[<-qJv,<-h1,qJv];exact(h x hx).err
theorem qHp{l:List Dc}(h:∀d∈l,Gd d):(qAQ l).length<=400*l.length:=by
 rw[qEn];have:=qBw (l.map fun d=>(d,0)) (fun x hx=>by
  obtain⟨d,hd,rfl⟩:=List.mem_map.1 hx;exact h d hd)
 simpa using this
theorem qIg{l m:List Dc}(h:∀d∈l,Gd d)(hl:l.length<=20)(e:m.map Dc.st=l.map Dc.st):qCm m=(qAQ l,0):=by
 rw[qIV (qHq h e) (by rw[qHa e];have:=qHp h;omega),qHa e]
theorem qJe{l m:List Dc}(h:∀d∈l,Gd d)(e:m.map Dc.st=l.map Dc.st):∀d∈m,(qBd d 0).length<=400:=fun d hd=>by
 obtain⟨x,hx,h1⟩:=qKS e hd;rw[<-qFH,<-h1,qFH];exact(h x hx).len 0
theorem qEo{l m:List Dc}(e:m.map Dc.st=l.map Dc.st):m.length=l.length:=by simpa using congrArg List.length e
theorem qL9{l m:List Dc}(e:l.map Dc.st=m.map Dc.st)(j:Nat)(h1:j<l.length)(h2:j<m.length):l[j].st=m[j].st:=by
 have h3:(l.map Dc.st)[j]? =(m.map Dc.st)[j]? :=by rw[e]
 simpa[List.getElem?_map,List.getElem?_eq_getElem h1,List.getElem?_eq_getElem h2]using h3
theorem qBq(s:ByteArray)(ds:List Dc)(w:World)(hs:s.size<=100000)(hx:qAj s.data.toList=.ok ds)(hK:qAT w):
 Calls Tryd.prog 18 #[.string s] w fun e w'=>(∃a c,e=.returned (.tuple #[.slice a ds.length c,.int .i64 0,.int .i64 0])/\DsPar w' (.slice a ds.length c) ds/\ds.length<=100000)/\Below w.heap.size w w':=by
 refine(qCv s w hs hK).mono ?_;rintro e w1 ⟨hB1,⟨ds',v,hx',hl,rfl,hv⟩|⟨k,er,hx',rfl,her⟩⟩
 ·obtain rfl:ds=ds':=by rw[hx]at hx';injection hx'
  obtain⟨a,cp,rfl, -,-⟩:=TSl.form hv;exact⟨⟨a,cp,rfl,hv,by omega⟩,hB1⟩
 ·rw[hx]at hx';cases hx'
theorem qH3(v:Value)(l m:List Dc)(w:World)(h:DsPar w v m)(hg:∀d∈l,Gd d)(he:m.map Dc.st=l.map Dc.st)(hl:l.length<=20)(hD:∀d∈m,DL 8192 d)(hK:qAT w)(hT:qBC w):
 Calls Tryd.prog 15 #[v] w fun e w'=>e=.returned (.tuple #[.string ⟨(qAQ l).toArray⟩,.int .i64 0])/\Below w.heap.size w w':=by
 have h1:=qHe v m w h (fun d hd=>⟨qHq hg he d hd,(hD d hd).mono (by omega),by have:=qJe hg he d hd;omega⟩) (by have:=qEo he;omega) hK hT;rw[qIg hg hl he]at h1;exact h1
theorem qBt(v:Value)(l:List Dc)(w:World)(h:DsPar w v l)(hl:l.length<=100000)(hD:∀d∈l,DL 8192 d):
 Calls Tryd.prog 21 #[v] w fun e w'=>(∃a c,e=.returned (.slice a l.length c)/\DsRef w' (.slice a l.length c) l)/\Below w.heap.size w w':=by
 refine(qIp v l w h (by omega) (fun d hd=>(hD d hd).mono (by omega))).mono ?_;rintro e w1 ⟨⟨u,rfl,hu⟩,hB⟩;obtain⟨a,c,rfl, -,-⟩:=TSl.form hu;exact⟨⟨a,c,rfl,hu⟩,hB⟩
theorem qDl(va vb:Value)(l m:List Dc)(w:World)(ha:DsRef w va l)(hb:DsRef w vb m)(he:l.map Dc.st=m.map Dc.st)(hl:l.length<=100000)(hD:∀d∈l,DL 8192 d):
 Calls Tryd.prog 20 #[va,vb,.bool false] w fun e w'=>e=.returned (.bool true)/\Below w.heap.size w w':=
 qJ5 false va vb l m w ha hb (qEo he).symm (fun j h1 h2=>⟨qL9 he j h1 h2,nofun⟩) (by omega) (fun d hd=>(hD d hd).mono (by omega))
theorem qAZ{w w':World}{v:Value}{zs:List Int}{len:Nat}(h:qAG w v zs len)(hb:Below w.heap.size w w'):qAG w' v zs len:=h.below (Nat.le_refl _) hb
def pkN(zs:List Int)(len:Nat):Pk:=fun i m=>qBE zs len i m
theorem qAy(zs:List Int)(len:Nat):qHJ (pkN zs len):=fun i m hm=>qC5 zs len i m hm
def GB(w:World)(b:Nat)(v:Value)(i:Nat):Prop:=w.heap[b]? =some (.cells #[v,.int .i64 i] 71 (0,0))
structure GSt(w0 w:World)(b:Nat)(v:Value)(zs:List Int)(len i:Nat):Prop where
 gb:GB w b v i
 bel:Below w0.heap.size w0 w
 lo:w0.heap.size<=b
 ints:qAG w0 v zs len
section
variable {w0 w w':World}{b len i:Nat}{v:Value}{zs:List Int}
theorem GSt.at_(h:GSt w0 w b v zs len i):qAG w v zs len:=h.ints.below (Nat.le_refl _) h.bel
theorem GSt.lt(h:GSt w0 w b v zs len i):b<w.heap.size:=qAo h.gb
theorem GSt.below(h:GSt w0 w b v zs len i)(hb:Below w.heap.size w w'):GSt w0 w' b v zs len i:=⟨(hb.block b h.lt).trans h.gb,h.bel.trans (hb.mono h.bel.size),h.lo,h.ints⟩
theorem GSt.cell(h:GSt w0 w b v zs len i)(j:Nat):w.cell? ⟨b,j,none⟩=[v,.int .i64 (i:Int)][j]? :=by
 rw[cell_of_row w b j _ _ (0,0) h.gb];simp
theorem GSt.frozen(h:GSt w0 w b v zs len i)(j:Nat):w.frozen? ⟨b,j,none⟩=false:=by
 have:=h.gb;unfold GB at this;simp[World.frozen?,this]
theorem GSt.next(h:GSt w0 w b v zs len i):GSt w0 (w.setCell ⟨b,1,none⟩ (.int .i64 ((i+1:Nat):Int))) b v zs len (i+1)/\qAg (fun k=>k=b) w (w.setCell ⟨b,1,none⟩ (.int .i64 ((i+1:Nat):Int))):=by
 have hb:=h.gb;unfold GB at hb;refine⟨⟨by unfold GB;simp[World.setCell,Array.getElem?_modify,hb],h.bel.setCell (p:=⟨b,1,none⟩) h.lo _,h.lo,h.ints⟩,(qAg.refl (fun k=>k=b) w).set (p:=⟨b,1,none⟩) rfl _⟩
theorem GSt.kpx(h:GSt w0 w b v zs len i)(ho:qAg (fun k=>k=b) w w'):KpX [71] w w':=
 KpX.of_only ho (fun j hj e cs hh=>by
  subst hj;have:=h.gb;unfold GB at this;rw[this]at hh;injection hh with hh;injection hh with _ hh;rw[<-hh];simp)
theorem GSt.kp{X:List TypeId}(h:GSt w0 w b v zs len i)(hk:KpX X w w')(hx:71∉X)(hb:Below w0.heap.size w0 w'):GSt w0 w' b v zs len i:=⟨hk _ _ _ hx h.gb,hb,h.lo,h.ints⟩
end
theorem qAm(w0 w:World)(b:Nat)(v:Value)(zs:List Int)(len i:Nat)(m:Int)(h:GSt w0 w b v zs len i)(hi:i<=100000)(hm:0<m)(hm2:m<=1000000):
 Calls Tryd.prog 27 #[.pointer (some ⟨b,0,none⟩),.int .i64 m] w fun e w'=>e=.returned (.int .i64 (pkN zs len i m))/\GSt w0 w' b v zs len (i+1)/\qAg (fun k=>k=b) w w':=by
 have d0:w.cell? ⟨b,0,none⟩=some v:=h.cell 0;have d1:w.cell? ⟨b,1,none⟩=some (.int .i64 (i:Int)):=h.cell 1;have f1:w.frozen? ⟨b,1,none⟩=false:=h.frozen 1;obtain⟨hn,hno⟩:=h.next;obtain⟨w1,hw1⟩:=eX (w.setCell ⟨b,1,none⟩ (.int .i64 ((i:Int)+1)));have hw1':w.setCell ⟨b,1,none⟩ (.int .i64 ((i+1:Nat):Int))=w1:=hw1;rw[hw1']at hn hno;have hwr:IntKind.i64.wrap ((i:Int)+1)=(i:Int)+1:=IntWalk.i64_in _ (by omega);have hwr1:IntKind.i64.wrap (i:Int)=(i:Int):=IntWalk.i64_in _ (by omega);have c0:w1.cell? ⟨b,0,none⟩=some v:=hn.cell 0;have c1:w1.cell? ⟨b,1,none⟩=some (.int .i64 ((i:Int)+1)):=hn.cell 1;obtain⟨wd,hwd⟩:=eX w1.drew;have hBd:Below w1.heap.size w1 wd:=by rw[<-hwd];exact qAc _
 have HGd:=hZ (hn.below hBd);have HOd:=hZ (hno.trans (qAg.of_below hBd));have HC:=hZ (qFx v zs len i m wd HGd.o.at_ (by omega) hm (by omega));clear h hn hno hBd hw1'
 go_enter Tryd.func27,Tryd.ntmps27
 go_wp2_with fail
 clear hw1 d0 d1 f1;refine qAr [10,11] (fun W=>W.cell? ⟨b,0,none⟩=some v/\W.cell? ⟨b,1,none⟩=some (.int .i64 ((i:Int)+1))) (by kernel_rfl) (⟨c0,c1⟩) (fun hHeld=> ?_);rw[hwd]at hHeld ⊢;clear hwd c0 c1;refine pU 0 12 ?_;refine pU 1 13 ?_;refine pU 2 14 ?_;refine qAb 3 15 (v:= ?_) rfl rfl (by kernel_rfl) (by kernel_rfl) (by kernel_rfl) (by kernel_rfl) (by kernel_rfl) (fun _ _ _ h=>h) (by rfl) ?_ (by assumption) ?_;rotate_left
 ·(intro w hSw;go_simp;first|done|with_reducible rfl)
 simp only[sX1,sX2,sX3];refine pU 4 16 ?_;refine pU 5 17 ?_;refine pU 6 18 ?_;refine qAb 7 19 (v:= ?_) rfl rfl (by kernel_rfl) (by kernel_rfl) (by kernel_rfl) (by kernel_rfl) (by kernel_rfl) (fun _ _ _ h=>h) (by rfl) ?_ (by assumption) ?_;rotate_left
 ·(intro w hSw;go_simp;first|done|with_reducible rfl)
 simp only[sX1,sX2,sX3];refine pU 8 20 ?_;refine pU 9 21 ?_;refine lU 10 fun K hK=> ?_;go_simp;refine HC.o.mono ?_;rintro e w2 ⟨rfl,hw2⟩;subst hw2
 go_wp2_with fail
 refine hK.out _ _ ?_;clear hK K HC hHeld
 try simp only[Act.put,sX1,sX2,sX3]
 refine lU 11 fun K hK=> ?_;go_simp;refine hK.out _ _ ?_;clear hK K
 try simp only[Act.put,sX1,sX2,sX3]
 refine dU ?_
 go_wp2_with fail
 go_ret;exact⟨rfl,HGd.o,HOd.o⟩
theorem qCh{w w':World}{b k:Nat}{L:List Value}{t:TypeId}(ho:qAg (fun j=>j=b) (w.alloc (.cells L.toArray t)) w')(hb:b<w.heap.size):w'.cell? ⟨w.heap.size,k,none⟩=L[k]? :=by
 rw[ho.cell (p:=⟨w.heap.size,k,none⟩) (by show ¬w.heap.size=b;omega) (by simp)];rw[cell_of_row (w.alloc (.cells L.toArray t)) w.heap.size k L.toArray t (0,0) (heap_alloc_new w _)];simp
theorem qGg(w0 w:World)(b:Nat)(v:Value)(zs:List Int)(len i:Nat)(h:GSt w0 w b v zs len i)(hi:i<=100000):
 Calls Tryd.prog 54 #[.pointer (some ⟨b,0,none⟩)] w fun e w'=>e=.returned (.string ⟨(qD1 (pkN zs len) i).toArray⟩)/\GSt w0 w' b v zs len (i+1)/\qAg (fun k=>k=b) w w':=by
 have hlt:=h.lt;obtain⟨W,hW⟩:=eX (w.alloc (.cells #[.string ⟨#[105,114,111,110]⟩,.string ⟨#[103,111,108,100]⟩,.string ⟨#[97,49]⟩,.string ⟨#[116,105,109,101]⟩,.string ⟨#[105,116,101,109]⟩,.string ⟨#[111,102]⟩,.string ⟨#[120,95,50]⟩,.string ⟨#[116,97,107,101]⟩] 9));have hB:Below w.heap.size w W:=by rw[<-hW];exact aR
 have HC:=hZ (qAm w0 W b v zs len i 8 (h.below hB) hi (by omega) (by omega));have hcl:∀w',qAg (fun j=>j=b) W w'->∀k,w'.cell? ⟨w.heap.size,k,none⟩=(qCj.map fun x=>Value.string ⟨x.toArray⟩)[k]? :=fun w' ho k=>by
  rw[<-hW]at ho;exact qCh (L:=qCj.map fun x=>Value.string ⟨x.toArray⟩) ho hlt
 have Hcl:=hZ hcl;have HB:=hZ hB;clear hB hcl h
 go_enter Tryd.func54,Tryd.ntmps54
 go_wp2_with fail
 clear hW;refine HC.o.mono ?_;rintro e w1 ⟨rfl,hg,ho⟩;have hp:=qAy zs len i 8 (by omega);have Hr:Hid (qD1 (pkN zs len) i=qCj.getD (pkN zs len i 8).toNat []):=hZ rfl;have HG:=hZ hg;have HO:=hZ ho;have hc:=Hcl.o w1 ho (pkN zs len i 8).toNat;clear hg ho Hcl HC;generalize pkN zs len i 8=x at hp hc Hr ⊢;have hx:(qCj.map fun x=>Value.string ⟨x.toArray⟩)[x.toNat]? =some (.string ⟨(qCj.getD x.toNat []).toArray⟩):=by
  have:x.toNat<qCj.length:=by show _<8;omega
  rw[List.getElem?_map,List.getElem?_eq_getElem this,List.getD_eq_getElem?_getD,List.getElem?_eq_getElem this];rfl
 rw[hx]at hc;clear hx;obtain⟨hx0,hx1⟩:=hp;obtain⟨s,hs⟩:=eX (qCj.getD x.toNat []);rw[hs]at hc Hr;clear hs
 go_wp2_with fail
 go_ret;exact⟨by rw[Hr.o];rfl,HG.o,(qAg.of_below HB.o).trans HO.o⟩
theorem GSt.behind{w0 w w':World}{b len i B:Nat}{v:Value}{zs:List Int}(h:GSt w0 w b v zs len i)(hlt:b<B)(hB:w0.heap.size<=B)(hb:Below B w w'):GSt w0 w' b v zs len i:=
 ⟨(hb.block b hlt).trans h.gb,h.bel.trans (hb.mono hB),h.lo,h.ints⟩
theorem GSt.size{w0 w:World}{b len i:Nat}{v:Value}{zs:List Int}(h:GSt w0 w b v zs len i):w0.heap.size<=w.heap.size:=h.bel.size
theorem qBS(w0 w:World)(b:Nat)(v:Value)(zs:List Int)(len i:Nat)(h:GSt w0 w b v zs len i)(hi:i<=90000):
 Calls Tryd.prog 55 #[.pointer (some ⟨b,0,none⟩)] w fun e w'=>(∃u,e=.returned u/\qAz 74 w' u (qBR (pkN zs len) i))/\GSt w0 w' b v zs len (qBs (pkN zs len) i)/\qAg (fun k=>k=b) w w':=by
 have HC:=hZ (qAm w0 w b v zs len i 4 h (by omega) (by omega) (by omega));obtain⟨c,hc,hcl,HL,HE⟩:∃c:Nat,pkN zs len i 4=(c:Int)/\c<=3/\Hid (qBR (pkN zs len) i=qCi (pkN zs len) c (i+1))/\Hid (qBs (pkN zs len) i=i+1+2*c):=
  ⟨(pkN zs len i 4).toNat,by have:=qAy zs len i 4 (by omega);omega,by have:=qAy zs len i 4 (by omega);omega,hZ rfl,hZ rfl⟩
 rw[hc]at HC;rw[HL.o,HE.o];have hlt:=h.lt;have hsz:=h.size;clear h hc HL HE
 go_enter Tryd.func55,Tryd.ntmps55
 go_wp2_with fail
 refine HC.o.mono ?_;rintro e w1 ⟨rfl,hg,ho⟩;have HG0:=hZ hg;have HO0:=hZ ho;clear hg ho HC
 go_wp2_with fail
 go_loopw [3,4] (fun ov iv wr=>∃k j:Nat,∃acc:List Pr,k<=c/\iv=.int .i64 k/\j+2*k=i+1+2*c/\acc.length+k=c/\Hid (wr.ownsRow w.heap.size 74 3 ov acc.length (acc.flatMap prC))/\Hid (acc++qCi (pkN zs len) k j=qCi (pkN zs len) c (i+1))/\Hid (GSt w0 wr b v zs len j)/\Hid (qAg (fun k=>k=b) w wr)) (fun _ iv _=>(intOf iv).toNat)
 case atStart=>exact⟨c,i+1,[],by omega,rfl,rfl,by simp,hZ (World.ownsRow_nil _ _ _ _),hZ rfl,HG0,HO0⟩
 case round=>
  obtain⟨k,j,acc,hk,rfl,hj,hal,HO,HQ,HG,HY⟩:=hrel;cases k with
  |zero=>
   have hn0:¬(0:Int)<((0:Nat):Int):=by omega
   have hcc:acc.length=c:=by omega
   have HA:Hid (acc=qCi (pkN zs len) c (i+1)):=hZ (by have:=HQ.o;rw[qCi,List.append_nil]at this;exact this);have hj':j=i+1+2*c:=by omega
   subst hj';clear HQ hj
   go_wp2_with fail
   go_ret;exact⟨⟨_,rfl,by rw[<-HA.o];exact qAz.of_own HO.o⟩,HG.o,HY.o⟩
  |succ k=>
   have hn0:(0:Int)<((k+1:Nat):Int):=by omega
   obtain⟨W,hW⟩:=eX (wr.alloc (.cells #[.int .i64 1,.int .i64 2,.int .i64 30,.int .i64 0,.int .i64 1099511627776] 3));have hB:Below wr.heap.size wr W:=by rw[<-hW];exact aR
   have HCr:=hZ (qAm w0 W b v zs len j 5 (HG.o.below hB) (by omega) (by omega) (by omega));have hblt:=HG.o.lt;have hcl2:∀w',qAg (fun j=>j=b) W w'->∀k,w'.cell? ⟨wr.heap.size,k,none⟩=(qD0.map fun x=>Value.int .i64 x)[k]? :=fun w' ho k=>by
    rw[<-hW]at ho;exact qCh (L:=qD0.map fun x=>Value.int .i64 x) ho hblt
   have Hcl:=hZ hcl2;have HB:=hZ hB;clear hB hcl2 HG hblt
   go_wp2_with fail
   clear hW;refine HCr.o.mono ?_;rintro e w2 ⟨rfl,hg,ho⟩;have hp:=qAy zs len j 5 (by omega);have Hr:Hid (qKC (pkN zs len) j=qD0.getD (pkN zs len j 5).toNat 0):=hZ rfl;have HG2:=hZ hg;have HB2:=hZ ((qAg.of_below (S:=fun j=>j=b) HB.o).trans ho);have hcx:=Hcl.o w2 ho (pkN zs len j 5).toNat;clear hg ho Hcl HCr HB;generalize pkN zs len j 5=x at hp hcx Hr ⊢;have hx:(qD0.map fun x=>Value.int .i64 x)[x.toNat]? =some (.int .i64 (qD0.getD x.toNat 0)):=by
    have:x.toNat<qD0.length:=by show _<5;omega
    rw[List.getElem?_map,List.getElem?_eq_getElem this,List.getD_eq_getElem?_getD,List.getElem?_eq_getElem this];rfl
   rw[hx,<-Hr.o]at hcx;clear hx Hr;obtain⟨hx0,hx1⟩:=hp;obtain⟨nn,hnn⟩:=eX (qKC (pkN zs len) j);obtain⟨ns,hns⟩:=eX (qD1 (pkN zs len) (j+1));have HT:Hid (qCi (pkN zs len) (k+1) j=⟨nn,ns,0⟩::qCi (pkN zs len) k (j+2)):=hZ (by rw[<-hnn,<-hns];rfl);have HCn:=hZ (qGg w0 w2 b v zs len (j+1) HG2.o (by omega));rw[hns]at HCn;rw[hnn]at hcx;clear hnn hns HG2
   go_wp2_with fail
   refine HCn.o.mono ?_;rintro e w3 ⟨rfl,hg,ho⟩;have HG3:=hZ hg;have HB3:=hZ (HB2.o.trans ho);clear hg ho HB2 HCn hcx;have HO3:=hZ (HB3.o.own HO.o (fun g e he=>by have:=(HO.o.lt g e).1;omega));have HY3:=hZ (HY.o.trans HB3.o);have hac:acc.length<=3:=by omega
   clear HO HB3 HY
   go_wp2_with (at_builtin;refine qA2 (W0:=w3) qG0 rfl _ _ rfl (prC ⟨nn,ns,0⟩) 74 _ _ _ rfl rfl rfl (by simp[prC,Value.oneCell']) HO3.o (Below.refl _ _) HY3.o.size (by omega) (by omega) ?_)
   intro g5 cap5 w5 HO5 HB5 HW5 hcap5 hat5;have HY5:=hZ (HY3.o.behind HB5.o);have HG5:=hZ (HG3.o.behind hlt hsz HB5.o);have HQ5:Hid ((acc++[(⟨nn,ns,0⟩:Pr)])++qCi (pkN zs len) k (j+2)=qCi (pkN zs len) c (i+1)):=hZ (by rw[List.append_assoc,<-HQ.o,HT.o];rfl);have hal2:acc.length+1=(acc++[(⟨nn,ns,0⟩:Pr)]).length:=by simp
   have hfl:acc.flatMap prC++prC ⟨nn,ns,0⟩=(acc++[(⟨nn,ns,0⟩:Pr)]).flatMap prC:=by simp
   rw[hal2,hfl]at HO5;rw[hal2];have hal3:(acc++[(⟨nn,ns,0⟩:Pr)]).length+k=c:=by simp;omega
   obtain⟨acc',ha'⟩:∃acc',acc++[(⟨nn,ns,0⟩:Pr)]=acc':=⟨_,rfl⟩;rw[ha']at HO5 hal3 HQ5 ⊢;clear hal2 hfl ha' HO3 HY3 HG3 HB5 HW5 hat5 HQ HT
   go_wp2_with fail
   go_roundw
   case rel=>exact⟨k,j+2,acc',by omega,by go_num,by omega,hal3,HO5,HQ5,HG5,HY5⟩
   case measure=>simp[intOf]
end Go.Proofs.YtpmnbcdjoomgcaaDoor
