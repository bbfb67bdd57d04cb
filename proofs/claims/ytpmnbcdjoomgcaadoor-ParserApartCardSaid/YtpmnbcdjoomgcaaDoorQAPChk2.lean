/- The program's named, inRange and check, of declarations that they accept. -/
import Derived.Test.YtpmnbcdjoomgcaaDoorQAQSam3
import Derived.Test.YtpmnbcdjoomgcaaDoorQAPText
import Derived.Test.YtpmnbcdjoomgcaaDoorQAGSeq
import Derived.Test.YtpmnbcdjoomgcaaDoorQAPCatch
import Derived.Test.YtpmnbcdjoomgcaaDoorQAQSame
set_option linter.unusedVariables false
set_option linter.unusedSimpArgs false
set_option maxHeartbeats 4000000
set_option maxRecDepth 100000
namespace Go.Proofs.YtpmnbcdjoomgcaaDoor
open Go.RowKit
theorem qCt(v:Value)(l:List Pr)(w:World)(h:qAD 68 w v l)(hl:l.length<=1000000):
 Calls Tryd.prog 49 #[v] w fun e w'=>(∃u,e=.returned u/\qAD 74 w' u l)/\Below w.heap.size w w':=by
 obtain⟨a,cap,rfl, -,-⟩:=TSl.form h;have HA:=hZ h;obtain⟨n,hn⟩:=eX l.length;rw[hn];rw[hn]at hl;have Hn:=hZ hn;clear h hn
 go_enter Tryd.func49,Tryd.ntmps49
 go_wp2_with fail
 go_loopw [3,4] (fun ov iv wr=>∃k:Nat,k<=n/\iv=.int .i64 k/\Hid (wr.ownsRow w.heap.size 74 3 ov k ((l.take k).flatMap prC))/\Hid (Below w.heap.size w wr)) (fun _ iv _=>n-(intOf iv).toNat)
 case atStart=>exact⟨0,by omega,rfl,hZ (World.ownsRow_nil _ _ _ _),hZ (Below.refl _ _)⟩
 case round=>
  obtain⟨k,hk,rfl,HO,HB⟩:=hrel;by_cases hlt:k<n
  ·have h1:k<l.length:=by have:=Hn.o;omega
   obtain⟨g,o1,cp,hv,y0,y1,y2⟩:=qAD.nth (HA.o.kp (KpX.of_below (X:=[]) HB.o) (by simp)) k h1;injection hv with hv hq1 hv2;subst hv hv2;obtain⟨p,hp⟩:=eX (l[k]);rw[hp]at y0 y1 y2;have HT:Hid ((l.take k).flatMap prC++prC p=(l.take (k+1)).flatMap prC):=hZ (by rw[List.take_succ_eq_append_getElem h1,hp];simp);obtain⟨wd,hwd⟩:=eX wr.drew;have hBd:Below wr.heap.size wr wd:=by rw[<-hwd];exact(Below.refl _ _).drew
   obtain⟨w5,hw5⟩:=eX (wd.alloc (.cells #[.int .i64 p.n,.string ⟨p.name.toArray⟩,.int .i64 p.at_] 74));have hB5:Below wr.heap.size wr w5:=by rw[<-hw5];exact hBd.trans ((qAa _ _).mono hBd.size)
   have HW5:Hid (qAy w5 wd.heap.size 74 (prC p)):=hZ (by rw[<-hw5];exact qAy.new _ _ _);have HO5:=hZ ((qAg.of_below (S:=fun _=>False) hB5).own HO.o (fun _ _ h=>h));have HB5:=hZ (HB.o.trans (hB5.mono HB.o.size));have hn0:(0:Int)<=(k:Int):=by omega
   have hn1:(k:Int)<(n:Int):=by omega
   clear hBd hB5 HO HB hp hq1 h1
   go_wp2_with fail
   refine qAs [17,18,19] (fun W=>W.cell? ⟨g,o1+k*3,none⟩=some (.int .i64 p.n)/\W.cell? ⟨g,o1+k*3+1,none⟩=some (.string ⟨p.name.toArray⟩)/\W.cell? ⟨g,o1+k*3+2,none⟩=some (.int .i64 p.at_)) (by kernel_rfl) (⟨y0,y1,y2⟩) (fun hHeld=> ?_);rw[hwd]at hHeld ⊢;clear hwd y0 y1 y2;refine pU 0 11 ?_;refine pU 1 12 ?_;refine pU 2 13 ?_;refine pU 3 14 ?_;refine pU 4 15 ?_;refine qAb 5 16 (v:= ?_) rfl rfl (by kernel_rfl) (by kernel_rfl) (by kernel_rfl) (by kernel_rfl) (by kernel_rfl) (fun _ _ _ h=>h) (by rfl) ?_ (by assumption) ?_;rotate_left
   ·(intro w hSw;go_simp;first|done|with_reducible rfl)
   simp only[sX1,sX2,sX3];refine pU 6 17 ?_;refine pU 7 18 ?_;refine pU 8 19 ?_;refine pU 9 20 ?_;refine qAb 10 21 (v:= ?_) rfl rfl (by kernel_rfl) (by kernel_rfl) (by kernel_rfl) (by kernel_rfl) (by kernel_rfl) (fun _ _ _ h=>h) (by rfl) ?_ (by assumption) ?_;rotate_left
   ·(intro w hSw;go_simp;first|done|with_reducible rfl)
   simp only[sX1,sX2,sX3];refine pU 11 22 ?_;refine pU 12 23 ?_;refine pU 13 24 ?_;refine pU 14 25 ?_;refine qAb 15 26 (v:= ?_) rfl rfl (by kernel_rfl) (by kernel_rfl) (by kernel_rfl) (by kernel_rfl) (by kernel_rfl) (fun _ _ _ h=>h) (by rfl) ?_ (by assumption) ?_;rotate_left
   ·(intro w hSw;go_simp;first|done|with_reducible rfl)
   simp only[sX1,sX2,sX3];refine pU 16 27 ?_;refine lU 17 fun K hK=> ?_;go_simp;refine hK.out _ _ ?_;clear hK K
   try simp only[Act.put,sX1,sX2,sX3]
   clear hw5 hHeld;refine lU 18 fun K hK=> ?_;refine qBS (W0:=w5) qGx rfl _ _ rfl (prC p) wd.heap.size _ _ _ rfl rfl HW5.o rfl (by simp[prC,Value.oneCell']) HO5.o (Below.refl _ _) HB5.o.size (by omega) (by omega) ?_;intro g6 cap6 w6 HO6 HB6 HF6 hcap6 hcap6b;have HB7:=hZ (HB5.o.trans HB6.o);rw[HT.o]at HO6;clear HO5 HB5 HB6 HF6 HW5 hcap6 hcap6b HT;refine hK.out _ _ ?_;clear hK K
   try simp only[Act.put,sX1,sX2,sX3]
   refine lU 19 fun K hK=> ?_;go_simp;refine hK.out _ _ ?_;clear hK K
   try simp only[Act.put,sX1,sX2,sX3]
   refine dU ?_
   go_wp2_with fail
   go_roundw
   case rel=>exact⟨k+1,by omega,by go_num,HO6,HB7⟩
   case measure=>simp[intOf];omega
  ·have hn1:¬(k:Int)<(n:Int):=by omega
   have hkn:k=n:=by omega
   have HP:Hid (wr.ownsRow w.heap.size 74 3 _ l.length (l.flatMap prC)):=hZ (by have:=HO.o;rw[hkn,<-Hn.o,List.take_length]at this;exact this);clear HO hkn
   go_wp2_with fail
   go_ret;exact⟨⟨_,rfl,qAD.of_own HP.o⟩,HB.o⟩
theorem KpX.late{X:List TypeId}{S:Nat->Prop}{w w1 w2:World}(h:KpX X w w1)(ho:qAg S w1 w2)(hz:w.heap.size<=w1.heap.size)(hS:∀b,S b->w.heap.size<=b):KpX X w w2:=fun e cs b he hb=>by
 have hl:=qAq hb;exact(ho.block b (by omega) (fun hs=>by have:=hS b hs;omega)).trans (h e cs b he hb)
theorem qAU.nthB{e et:TypeId}{w:World}{v:Value}{l:List (List Pr)}(h:qAU e et w v l)(i:Nat)(hi:i<l.length):∃g off cap cs u,v=.slice (some ⟨g,off,none⟩) l.length cap/\w.heap[g]? =some (.cells cs et (0,0))/\cs[off+i]? =some u/\qAD e w u l[i]:=by
 obtain⟨a,cap,rfl,h2,h3,h4⟩:=h;obtain⟨b,off,cs,rfl,h6,h7⟩:=h4 (fun e=>by rw[e]at hi;simp at hi);obtain⟨es,⟨u,rfl,hu⟩, -,h10⟩:=h7 i hi;exact⟨b,off,cap,cs,u,rfl,h6,by simpa using h10 0 (by omega),hu⟩
structure DBx(w0 wr w:World)(b5:Nat)(d:Dc)(y z:Ls)(s:Nat)(ov:Value)(m:Nat)(css:List (List Value)):Prop where
 lo:w0.heap.size<=b5
 src:qAy w b5 61 (dcC d y)
 dst:qAy w (b5+1) 34 (dcC d z)
 ly:qJQ 68 58 w d y
 lx:qCA w z.x d.brs
 pt:1<=s->qAD 74 w z.t d.take
 pg:2<=s->qAD 74 w z.g d.give
 pb:3<=s->qAD 74 w z.b d.back
 ow:w.ownsRow w0.heap.size 34 17 ov m css.flatten
 kv:KpX [34] wr w
 sz:wr.heap.size<=w.heap.size
 bel:Below w0.heap.size w0 w
section
variable {w0 wr w w':World}{b5 m:Nat}{d:Dc}{y z z':Ls}{s s':Nat}{ov:Value}{css:List (List Value)}
theorem DBx.keep(h:DBx w0 wr w b5 d y z s ov m css)(hb:Below w0.heap.size w w')(hk:KpX [34] w w')
 (hd:qAy w' (b5+1) 34 (dcC d z'))(ho:w'.ownsRow w0.heap.size 34 17 ov m css.flatten)(hx:z'.x=z.x)(pt:1<=s'->qAD 74 w' z'.t d.take)(pg:2<=s'->qAD 74 w' z'.g d.give)(pb:3<=s'->qAD 74 w' z'.b d.back):DBx w0 wr w' b5 d y z' s' ov m css:=
 ⟨h.lo,hk _ _ _ (by decide) h.src,hd,h.ly.kp hk (by decide) (by decide) (by decide),by rw[hx];exact h.lx.kp hk (by decide),pt,pg,pb,ho,h.kv.trans hk,Nat.le_trans h.sz hb.size,h.bel.trans hb⟩
theorem DBx.below(h:DBx w0 wr w b5 d y z s ov m css)(hb:Below w.heap.size w w'):DBx w0 wr w' b5 d y z s ov m css:=by
 have hk:=KpX.of_below (X:=[34]) hb;exact h.keep (hb.mono h.bel.size) hk (h.dst.below hb h.dst.lt) ((qAg.of_below (S:=fun _=>False) hb).own h.ow (fun _ _ h=>h)) rfl (fun a=>(h.pt a).kp hk (by decide)) (fun a=>(h.pg a).kp hk (by decide)) (fun a=>(h.pb a).kp hk (by decide))
theorem DBx.put(h:DBx w0 wr w b5 d y z s ov m css)(i:Nat)(u:Value)(he:(dcC d z).set i u=dcC d z')(hx:z'.x=z.x)(hne:ov.ownBlock≠some (b5+1))
 (pt:1<=s'->qAD 74 w z'.t d.take)(pg:2<=s'->qAD 74 w z'.g d.give)(pb:3<=s'->qAD 74 w z'.b d.back):DBx w0 wr (w.setCell ⟨b5+1,i,none⟩ u) b5 d y z' s' ov m css/\KpX [34] w (w.setCell ⟨b5+1,i,none⟩ u):=by
 have hk:KpX [34] w (w.setCell ⟨b5+1,i,none⟩ u):=KpX.set h.dst (by simp) u;have hb:Below w0.heap.size w (w.setCell ⟨b5+1,i,none⟩ u):=(Below.refl _ _).setCell (p:=⟨b5+1,i,none⟩) (by have:=h.lo;show _<=b5+1;omega) u;refine⟨h.keep hb hk (by rw[<-he];exact h.dst.set i u) ?_ hx (fun a=>(pt a).kp hk (by decide)) (fun a=>(pg a).kp hk (by decide)) (fun a=>(pb a).kp hk (by decide)),hk⟩;exact((qAg.refl (fun k=>k=b5+1) w).set (p:=⟨b5+1,i,none⟩) rfl u).own h.ow (fun k hk e=>hne (by rw[hk,e]))
theorem DBx.grow{rv:Value}(h:DBx w0 wr w b5 d y z s ov m css)(ho:qAg (fun b=>rv.ownBlock=some b) w w')(hb:Below w0.heap.size w0 w')(hk:KpX [30] w w')(hr:∀b,rv.ownBlock=some b->wr.heap.size<=b):DBx w0 wr w' b5 d y z s ov m css:=
 ⟨h.lo,hk _ _ _ (by decide) h.src,hk _ _ _ (by decide) h.dst,h.ly.kp hk (by decide) (by decide) (by decide),h.lx.kp hk (by decide),fun a=>(h.pt a).kp hk (by decide),fun a=>(h.pg a).kp hk (by decide),fun a=>(h.pb a).kp hk (by decide),qBJ h.ow hk (by decide),h.kv.late ho h.sz hr,Nat.le_trans h.sz ho.size,hb⟩
end
theorem qEM:(Tryd.prog.info? 61).map (·.size)=some 17:=by kernel_rfl
theorem qEN:(Tryd.prog.info? 34).map (·.size)=some 17:=by kernel_rfl
def qKx(w:World)(B:Nat)(v:Value)(l:List Dc):Prop:=∃css:List (List Value),w.ownsRow B 34 17 v l.length css.flatten/\css.length=l.length/\∀j (h:j<l.length) (h':j<css.length),qF4 74 30 w css[j] l[j]
theorem qES(v:Value)(l:List Dc)(w:World)(h:qCQ 68 58 61 w v l)(hl:l.length<=1000000)(hD:∀d∈l,qKZ d):
 Calls Tryd.prog 21 #[v] w fun e w'=>(∃u,e=.returned u/\qCQ 74 30 34 w' u l/\qKx w' w.heap.size u l)/\Below w.heap.size w w':=by
 obtain⟨a,cap,rfl, -,-⟩:=TSl.form h;have HA:=hZ h;have HD:=hZ hD;obtain⟨n,hn⟩:=eX l.length;rw[hn];rw[hn]at hl;have Hn:=hZ hn;clear h hn hD
 go_enter Tryd.func21,Tryd.ntmps21
 go_wp2_with fail
 go_loopw [3,4] (fun ov iv wr=>∃(k:Nat) (css:List (List Value)),k<=n/\iv=.int .i64 k/\Hid (wr.ownsRow w.heap.size 34 17 ov k css.flatten)/\Hid (css.length=(l.take k).length/\∀j (h:j<(l.take k).length) (h':j<css.length),qF4 74 30 wr css[j] (l.take k)[j])/\Hid (Below w.heap.size w wr)) (fun _ iv _=>n-(intOf iv).toNat)
 case atStart=>exact⟨0,[],by omega,rfl,hZ (World.ownsRow_nil _ _ _ _),hZ ⟨rfl,fun j h=>by simp at h⟩,hZ (Below.refl _ _)⟩
 case round=>
  obtain⟨k,css,hk,rfl,HO,HV,HB⟩:=hrel;obtain⟨wo,hwo⟩:∃W,W=wr:=⟨_,rfl⟩;subst hwo;by_cases hlt:k<n
  ·have h1:k<l.length:=by have:=Hn.o;omega
   obtain⟨g,o1,cp,cs,hv,hd0,hcl,hrow⟩:=qCQ.nth (HA.o.kp (KpX.of_below (X:=[]) HB.o) (by simp) (by simp) (by simp) (by simp)) k h1;injection hv with hv hq1 hv2;subst hv hv2;have hDl:=HD.o _ (List.getElem_mem h1);have hT:l.take (k+1)=l.take k++[l[k]]:=List.take_succ_eq_append_getElem h1;obtain⟨d,hd⟩:=eX (l[k]);rw[hd]at hd0 hDl hT;have HDl:=hZ hDl;have HT:=hZ hT;have hTl:(l.take k).length=k:=by rw[List.length_take];omega
   obtain⟨acc,hacc⟩:=eX (l.take k);rw[hacc]at HV HT hTl;obtain⟨y,hcs,hy⟩:=hd0;subst hcs;obtain⟨r1,r2,hyr, -,-⟩:=TSl.form hy.r;obtain⟨x1,x2,hyx, -,-⟩:=TSl.form hy.x;have hlx:=hy.x;rw[hyx]at hlx;obtain⟨b5,hb5⟩:=eX wo.heap.size;have hi1:(Tryd.prog.info? 61).map (·.size)=some (dcC d y).length:=qEM;have hia:(Tryd.prog.info? 61).map (·.size)=some (dcC d y).toArray.size:=qEM;have hib:(Tryd.prog.info? 34).map (·.size)=some (dcC d ⟨.slice none 0 0,.slice none 0 0,.slice none 0 0,.slice none 0 0,.slice x1 d.brs.length x2⟩).toArray.size:=qEN;have hr1:qAy (wo.alloc (.cells #[Value.int IntKind.i64 0,Value.string { data:=#[] },Value.int IntKind.i64 0,Value.bool false,Value.bool false,Value.bool false,Value.int IntKind.i64 0,Value.int IntKind.i64 0,Value.int IntKind.i64 0,Value.int IntKind.i64 0,Value.int IntKind.i64 0,Value.int IntKind.i64 0,Value.slice none 0 0,Value.slice none 0 0,Value.slice none 0 0,Value.slice none 0 0,Value.slice none 0 0] 61)) b5 61 [Value.int IntKind.i64 0,Value.string { data:=#[] },Value.int IntKind.i64 0,Value.bool false,Value.bool false,Value.bool false,Value.int IntKind.i64 0,Value.int IntKind.i64 0,Value.int IntKind.i64 0,Value.int IntKind.i64 0,Value.int IntKind.i64 0,Value.int IntKind.i64 0,Value.slice none 0 0,Value.slice none 0 0,Value.slice none 0 0,Value.slice none 0 0,Value.slice none 0 0]:=by rw[<-hb5];exact qAy.new _ _ _
   have hon1:(dcC d y).toArray.all (·.oneCell')=true:=by rw[Array.all_eq_true_iff_forall_mem];intro u hu;exact qFl hy u (by simpa using hu)
   have hon2:(dcC d ⟨.slice none 0 0,.slice none 0 0,.slice none 0 0,.slice none 0 0,.slice x1 d.brs.length x2⟩).toArray.all (·.oneCell')=true:=by
    simp[dcC,Value.oneCell']
   have hz1:(dcC d y).toArray.size=17:=rfl;have hz2:(dcC d ⟨.slice none 0 0,.slice none 0 0,.slice none 0 0,.slice none 0 0,.slice x1 d.brs.length x2⟩).toArray.size=17:=rfl;obtain⟨w1,hw1⟩:=eX ((wo.alloc (.cells #[Value.int IntKind.i64 0,Value.string { data:=#[] },Value.int IntKind.i64 0,Value.bool false,Value.bool false,Value.bool false,Value.int IntKind.i64 0,Value.int IntKind.i64 0,Value.int IntKind.i64 0,Value.int IntKind.i64 0,Value.int IntKind.i64 0,Value.int IntKind.i64 0,Value.slice none 0 0,Value.slice none 0 0,Value.slice none 0 0,Value.slice none 0 0,Value.slice none 0 0] 61)).setRow b5 (dcC d y).toArray);have hE1:qAy w1 b5 61 (dcC d y):=by rw[<-hw1];exact setRow_heap _ _ _ _ _ _ hr1
   have hB1:Below wo.heap.size wo w1:=by rw[<-hw1];exact below_setRow (qAa _ _) (by omega) _
   have hs1:w1.heap.size=b5+1:=by rw[<-hw1,<-hb5];simp
   have hr2:qAy (w1.alloc (.cells #[Value.int IntKind.i64 0,Value.string { data:=#[] },Value.int IntKind.i64 0,Value.bool false,Value.bool false,Value.bool false,Value.int IntKind.i64 0,Value.int IntKind.i64 0,Value.int IntKind.i64 0,Value.int IntKind.i64 0,Value.int IntKind.i64 0,Value.int IntKind.i64 0,Value.slice none 0 0,Value.slice none 0 0,Value.slice none 0 0,Value.slice none 0 0,Value.slice none 0 0] 34)) (b5+1) 34 [Value.int IntKind.i64 0,Value.string { data:=#[] },Value.int IntKind.i64 0,Value.bool false,Value.bool false,Value.bool false,Value.int IntKind.i64 0,Value.int IntKind.i64 0,Value.int IntKind.i64 0,Value.int IntKind.i64 0,Value.int IntKind.i64 0,Value.int IntKind.i64 0,Value.slice none 0 0,Value.slice none 0 0,Value.slice none 0 0,Value.slice none 0 0,Value.slice none 0 0]:=by rw[<-hs1];exact qAy.new _ _ _
   obtain⟨w2,hw2⟩:=eX ((w1.alloc (.cells #[Value.int IntKind.i64 0,Value.string { data:=#[] },Value.int IntKind.i64 0,Value.bool false,Value.bool false,Value.bool false,Value.int IntKind.i64 0,Value.int IntKind.i64 0,Value.int IntKind.i64 0,Value.int IntKind.i64 0,Value.int IntKind.i64 0,Value.int IntKind.i64 0,Value.slice none 0 0,Value.slice none 0 0,Value.slice none 0 0,Value.slice none 0 0,Value.slice none 0 0] 34)).setRow (b5+1) (dcC d ⟨.slice none 0 0,.slice none 0 0,.slice none 0 0,.slice none 0 0,.slice x1 d.brs.length x2⟩).toArray);have hE2:qAy w2 (b5+1) 34 (dcC d ⟨.slice none 0 0,.slice none 0 0,.slice none 0 0,.slice none 0 0,.slice x1 d.brs.length x2⟩):=by rw[<-hw2];exact setRow_heap _ _ _ _ _ _ hr2
   have hB2:Below w1.heap.size w1 w2:=by rw[<-hw2];exact below_setRow (qAa _ _) (by omega) _
   have hB12:Below wo.heap.size wo w2:=hB1.trans (hB2.mono hB1.size);have hk12:=KpX.of_below (X:=[]) hB12;have Hne:Hid (¬Value.ownBlock _=some (b5+1)):=hZ (fun e=>by have:=(HO.o.lt (b5+1) e).2;omega);have HXw2:Hid (DBx w wo w2 b5 d y ⟨.slice none 0 0,.slice none 0 0,.slice none 0 0,.slice none 0 0,.slice x1 d.brs.length x2⟩ 0 _ k css):=hZ ⟨by have:=HB.o.size;omega,hE1.below hB2 (by omega),hE2,hy.kp hk12 (by simp) (by simp) (by simp),hlx.kp hk12 (by simp),fun h=>absurd h (by decide),fun h=>absurd h (by decide),fun h=>absurd h (by decide),(qAg.of_below (S:=fun _=>False) hB12).own HO.o (fun _ _ h=>h),KpX.of_below hB12,hB12.size,HB.o.trans (hB12.mono HB.o.size)⟩;have Hbr:Hid (wo.heap.size=b5):=hZ hb5;have m0:w1.cell? ⟨b5,0,none⟩=some (.int .i64 d.kind):=hE1.cell 0;have m1:w1.cell? ⟨b5,1,none⟩=some (.string ⟨d.name.toArray⟩):=hE1.cell 1;have m2:w1.cell? ⟨b5,2,none⟩=some (.int .i64 d.at_):=hE1.cell 2;have m3:w1.cell? ⟨b5,3,none⟩=some (.bool d.object):=hE1.cell 3;have m4:w1.cell? ⟨b5,4,none⟩=some (.bool d.mixed):=hE1.cell 4;have m5:w1.cell? ⟨b5,5,none⟩=some (.bool d.coin):=hE1.cell 5;have m6:w1.cell? ⟨b5,6,none⟩=some (.int .i64 d.wear):=hE1.cell 6;have m7:w1.cell? ⟨b5,7,none⟩=some (.int .i64 d.bind):=hE1.cell 7;have m8:w1.cell? ⟨b5,8,none⟩=some (.int .i64 d.level):=hE1.cell 8;have m9:w1.cell? ⟨b5,9,none⟩=some (.int .i64 d.time):=hE1.cell 9;have m10:w1.cell? ⟨b5,10,none⟩=some (.int .i64 d.chance):=hE1.cell 10;have m11:w1.cell? ⟨b5,11,none⟩=some (.int .i64 d.of_):=hE1.cell 11;have m16:w1.cell? ⟨b5,16,none⟩=some (.slice x1 d.brs.length x2):=(hE1.cell 16).trans (by rw[<-hyx];rfl);have hn0:(0:Int)<=(k:Int):=by omega
   have hn1:(k:Int)<(n:Int):=by omega
   have HC1:=hZ (qCt y.t d.take w2 HXw2.o.ly.t HDl.o.1);have s12:w2.cell? ⟨b5,12,none⟩=some y.t:=HXw2.o.src.cell 12;clear hB1 hE1 hE2 hB2 hB12 hk12 hy hDl hT HO HB hd hacc hq1 hcl h1
   go_wp2_with (first|refine qBO rfl _ _ rfl g (o1+k*17) rfl (dcC d y) _ hrow Tryd.underlying61 rfl hi1 ?_|(refine wpList_store_row rfl _ _ _ rfl b5 (dcC d y).toArray rfl rfl _ _ hr1 hia hz1.symm hon1 ?_;rw[hw1])|(refine wpList_store_row rfl _ _ _ rfl (b5+1) (dcC d ⟨.slice none 0 0,.slice none 0 0,.slice none 0 0,.slice none 0 0,.slice x1 d.brs.length x2⟩).toArray rfl rfl _ _ hr2 hib hz2.symm hon2 ?_;rw[hw2]))
   clear hw1 hw2 hr1 hr2 hi1 hia hib hon1 hon2 hz1 hz2 hs1 hrow hb5 m0 m1 m2 m3 m4 m5 m6 m7 m8 m9 m10 m11 m16;refine HC1.o.mono ?_;rintro e w3 ⟨⟨u1,rfl,hu1⟩,hB1⟩;have HXw3:=hZ (HXw2.o.below hB1);obtain⟨a1,p1,rfl, -,-⟩:=TSl.form hu1;have k1:w3.cell? ⟨b5+1,12,none⟩=some (.slice none 0 0):=HXw3.o.dst.cell 12;have f1:w3.frozen? ⟨b5+1,12,none⟩=false:=HXw3.o.dst.frozen 12;have hq:=HXw3.o.put (z':=⟨.slice a1 d.take.length p1,.slice none 0 0,.slice none 0 0,(.slice none 0 0),(.slice x1 d.brs.length x2)⟩) (s':=1) 12 (.slice a1 d.take.length p1) rfl rfl Hne.o (fun _=>hu1) (fun h=>absurd h (by decide)) (fun h=>absurd h (by decide));obtain⟨w4,hw4⟩:=eX (w3.setCell ⟨b5+1,12,none⟩ (.slice a1 d.take.length p1));rw[hw4]at hq;have HXw4:=hZ hq.1;clear hq hu1 hB1 HC1 HXw2 HXw3 s12;have HC2:=hZ (qCt y.g d.give w4 HXw4.o.ly.g HDl.o.2.1);have s13:w4.cell? ⟨b5,13,none⟩=some y.g:=HXw4.o.src.cell 13
   go_wp2_with fail
   clear hw4 k1 f1;refine HC2.o.mono ?_;rintro e w5 ⟨⟨u2,rfl,hu2⟩,hB2⟩;have HXw5:=hZ (HXw4.o.below hB2);obtain⟨a2,p2,rfl, -,-⟩:=TSl.form hu2;have k2:w5.cell? ⟨b5+1,13,none⟩=some (.slice none 0 0):=HXw5.o.dst.cell 13;have f2:w5.frozen? ⟨b5+1,13,none⟩=false:=HXw5.o.dst.frozen 13;have hq:=HXw5.o.put (z':=⟨.slice a1 d.take.length p1,.slice a2 d.give.length p2,.slice none 0 0,(.slice none 0 0),(.slice x1 d.brs.length x2)⟩) (s':=2) 13 (.slice a2 d.give.length p2) rfl rfl Hne.o (fun _=>HXw5.o.pt (by decide)) (fun _=>hu2) (fun h=>absurd h (by decide));obtain⟨w6,hw6⟩:=eX (w5.setCell ⟨b5+1,13,none⟩ (.slice a2 d.give.length p2));rw[hw6]at hq;have HXw6:=hZ hq.1;clear hq hu2 hB2 HC2 HXw4 HXw5 s13;have HC3:=hZ (qCt y.b d.back w6 HXw6.o.ly.b HDl.o.2.2.1);have s14:w6.cell? ⟨b5,14,none⟩=some y.b:=HXw6.o.src.cell 14
   go_wp2_with fail
   clear hw6 k2 f2;refine HC3.o.mono ?_;rintro e w7 ⟨⟨u3,rfl,hu3⟩,hB3⟩;have HXw7:=hZ (HXw6.o.below hB3);obtain⟨a3,p3,rfl, -,-⟩:=TSl.form hu3;have k3:w7.cell? ⟨b5+1,14,none⟩=some (.slice none 0 0):=HXw7.o.dst.cell 14;have f3:w7.frozen? ⟨b5+1,14,none⟩=false:=HXw7.o.dst.frozen 14;have hq:=HXw7.o.put (z':=⟨.slice a1 d.take.length p1,.slice a2 d.give.length p2,.slice a3 d.back.length p3,(.slice none 0 0),(.slice x1 d.brs.length x2)⟩) (s':=3) 14 (.slice a3 d.back.length p3) rfl rfl Hne.o (fun _=>HXw7.o.pt (by decide)) (fun _=>HXw7.o.pg (by decide)) (fun _=>hu3);obtain⟨w8,hw8⟩:=eX (w7.setCell ⟨b5+1,14,none⟩ (.slice a3 d.back.length p3));rw[hw8]at hq;have HXw8:=hZ hq.1;clear hq hu3 hB3 HC3 HXw6 HXw7 s14;have s15:w8.cell? ⟨b5,15,none⟩=some (.slice r1 d.rows.length r2):=(HXw8.o.src.cell 15).trans (by rw[<-hyr];rfl)
   go_wp2_with fail
   clear hw8 k3 f3;obtain⟨rn,hrn⟩:=eX d.rows.length;have HRn:=hZ hrn;have HYr:Hid ((dcC d y)[15]? =some (.slice r1 rn r2)):=hZ (by rw[<-hrn,<-hyr];rfl);have hrm:rn<=1000000:=by have:=HDl.o.2.2.2.1;omega
   rw[hrn]at s15;clear hrn hyr hyx hlx s15
   go_loopw [7] (fun iv wr=>∃(j:Nat) (us:List Value) (rv:Value),j<=rn/\iv=.int .i64 j/\Hid (DBx w wo wr b5 d y ⟨.slice a1 d.take.length p1,.slice a2 d.give.length p2,.slice a3 d.back.length p3,rv,.slice x1 d.brs.length x2⟩ 3 _ k css)/\Hid (wr.ownsRow wo.heap.size 30 1 rv j us)/\Hid (qDN 74 wr us (d.rows.take j))) (fun iv _=>rn-(intOf iv).toNat)
   case atStart=>exact⟨0,[],_,by omega,rfl,HXw8,hZ (World.ownsRow_nil _ _ _ _),hZ (qDN.nil _ _)⟩
   case round=>
    clear HXw8;obtain⟨j,us,rv,hj,rfl,HX,HW,HU⟩:=hrel;by_cases hjl:j<rn
    ·have h2:j<d.rows.length:=by have:=HRn.o;omega
     obtain⟨gr,o2,cpr,csr,ur,hv,hbr,hur0,hpr⟩:=qAU.nthB HX.o.ly.r j h2;have HYR:Hid ((dcC d y)[15]? =some (.slice (some ⟨gr,o2,none⟩) rn r2)):=hZ (by
      have h9:=HYr.o;have h8:(dcC d y)[15]? =some y.r:=rfl;rw[h8,hv]at h9;injection h9 with h9;injection h9 with e1 e2 e3;rw[h8,hv,e2,e3])
     have HUR:=hZ hur0;obtain⟨r,hr⟩:=eX (d.rows[j]);rw[hr]at hpr;have HTR:Hid (d.rows.take (j+1)=d.rows.take j++[r]):=hZ (by rw[<-hr];exact List.take_succ_eq_append_getElem h2);have hrl:r.length<=1000000:=by rw[<-hr];exact HDl.o.2.2.2.2.2 _ (List.getElem_mem h2)
     have q1:wr.cell? ⟨b5+1,15,none⟩=some rv:=HX.o.dst.cell 15;have q2:wr.cell? ⟨b5,15,none⟩=some (.slice (some ⟨gr,o2,none⟩) rn r2):=(HX.o.src.cell 15).trans HYR.o;have q3:wr.cell? ⟨gr,o2+j,none⟩=some ur:=by rw[cell_of_row _ gr (o2+j) _ _ _ hbr];exact HUR.o
     obtain⟨wd,hwd⟩:=eX wr.drew;have hBd:Below wr.heap.size wr wd:=by rw[<-hwd];exact(Below.refl _ _).drew
     have HXd:=hZ (HX.o.below hBd);have HWd:=hZ ((qAg.of_below (S:=fun _=>False) hBd).own HW.o (fun _ _ h=>h));have HUd:=hZ (HU.o.kp (KpX.of_below (X:=[]) hBd) (by simp));have Hbd:=hZ ((hBd.block gr (qAq hbr)).trans hbr);have HC:=hZ (qCt ur r wd (hpr.kp (KpX.of_below (X:=[]) hBd) (by simp)) hrl);have hm0:(0:Int)<=(j:Int):=by omega
     have hm1:(j:Int)<(rn:Int):=by omega
     clear hBd hpr hr h2 hv hur0 hrl HX HW HU
     go_wp2_with fail
     refine qAs [11] (fun W=>W.cell? ⟨b5+1,15,none⟩=some rv/\W.cell? ⟨b5,15,none⟩=some (.slice (some ⟨gr,o2,none⟩) rn r2)/\W.cell? ⟨gr,o2+j,none⟩=some ur) (by kernel_rfl) (⟨q1,q2,q3⟩) (fun hHeld=> ?_);rw[hwd]at hHeld ⊢;clear hwd q1 q2 q3 hbr;refine pU 0 64 ?_;refine qAb 1 65 (v:= ?_) rfl rfl (by kernel_rfl) (by kernel_rfl) (by kernel_rfl) (by kernel_rfl) (by kernel_rfl) (fun _ _ _ h=>h) (by rfl) ?_ (by assumption) ?_;rotate_left
     ·(intro w hSw;go_simp;first|done|with_reducible rfl)
     simp only[sX1,sX2,sX3];refine pU 2 66 ?_;refine qAb 3 67 (v:= ?_) rfl rfl (by kernel_rfl) (by kernel_rfl) (by kernel_rfl) (by kernel_rfl) (by kernel_rfl) (fun _ _ _ h=>h) (by rfl) ?_ (by assumption) ?_;rotate_left
     ·(intro w hSw;go_simp;first|done|with_reducible rfl)
     simp only[sX1,sX2,sX3];refine pU 4 68 ?_;refine pU 5 69 ?_;refine qAb 6 70 (v:= ?_) rfl rfl (by kernel_rfl) (by kernel_rfl) (by kernel_rfl) (by kernel_rfl) (by kernel_rfl) (fun _ _ _ h=>h) (by rfl) ?_ (by assumption) ?_;rotate_left
     ·(intro w hSw;go_simp;first|done|with_reducible rfl)
     simp only[sX1,sX2,sX3];refine eU 7 fun K hK=> ?_;go_simp;refine HC.o.mono ?_;rintro e w11 ⟨⟨u9,rfl,hu9⟩,hB9⟩;obtain⟨a9,p9,rfl, -,-⟩:=TSl.form hu9;have HX9:=hZ (HXd.o.below hB9);have HW9:=hZ ((qAg.of_below (S:=fun _=>False) hB9).own HWd.o (fun _ _ h=>h));have HU9:=hZ (HUd.o.kp (KpX.of_below (X:=[]) hB9) (by simp));have Hb9:=hZ ((hB9.block gr (qAq Hbd.o)).trans Hbd.o);have HP9:=hZ hu9;obtain⟨w12,hw12⟩:=eX (w11.alloc (.cells #[.slice a9 r.length p9] 30));have hB12:Below w11.heap.size w11 w12:=by rw[<-hw12];exact qAa _ _
     have HE12:Hid (qAy w12 w11.heap.size 30 [.slice a9 r.length p9]):=hZ (by rw[<-hw12];exact qAy.new _ _ _);have HX12:=hZ (HX9.o.below hB12);have HW12:=hZ ((qAg.of_below (S:=fun _=>False) hB12).own HW9.o (fun _ _ h=>h));have HU12:=hZ ((HU9.o.kp (KpX.of_below (X:=[]) hB12) (by simp)).snoc (hu9.kp (KpX.of_below (X:=[]) hB12) (by simp)));have Hb12:=hZ ((hB12.block gr (qAq Hb9.o)).trans Hb9.o);have h9S:(fun W=>W.cell? ⟨b5+1,15,none⟩=some rv/\W.cell? ⟨b5,15,none⟩=some (.slice (some ⟨gr,o2,none⟩) rn r2)/\W.cell? ⟨gr,o2+j,none⟩=some ur) w11:=⟨HX9.o.dst.cell 15,(HX9.o.src.cell 15).trans HYR.o,by rw[cell_of_row _ gr (o2+j) _ _ _ Hb9.o];exact HUR.o⟩;clear hB9 hB12 hu9 HC HXd HWd HUd Hbd hHeld
     go_wp2_with fail
     refine hK.out _ _ (h9S) (fun hHeld=> ?_);clear hK K
     try simp only[Act.put,sX1,sX2,sX3]
     clear h9S;have h12S:(fun W=>W.cell? ⟨b5+1,15,none⟩=some rv/\W.cell? ⟨b5,15,none⟩=some (.slice (some ⟨gr,o2,none⟩) rn r2)/\W.cell? ⟨gr,o2+j,none⟩=some ur) w12:=⟨HX12.o.dst.cell 15,(HX12.o.src.cell 15).trans HYR.o,by rw[cell_of_row _ gr (o2+j) _ _ _ Hb12.o];exact HUR.o⟩;refine eU 8 fun K hK=> ?_;go_simp;clear hw12
     go_wp2_with fail
     refine hK.out _ _ (h12S) (fun hHeld=> ?_);clear hK K
     try simp only[Act.put,sX1,sX2,sX3]
     clear h12S hHeld;refine eU 9 fun K hK=> ?_;refine qBS (W0:=w12) qG2 rfl _ _ rfl [.slice a9 r.length p9] w11.heap.size _ _ _ rfl rfl HE12.o rfl (by simp[Value.oneCell']) HW12.o (Below.refl _ _) HX12.o.sz (by omega) (by omega) ?_;intro g13 cap13 w13 HW13 HB13 HF13 hcap13 hcap13b;have HK13:=hZ (KpX.own (X:=[30]) HW12.o HF13.o (by simp));have HU13:=hZ (HU12.o.kp HK13.o (by decide));have HB13':Below w.heap.size w w13:=HF13.o.below HX12.o.bel HX12.o.bel.size (fun b e=>by have:=(HW12.o.lt b e).1;have:=HX12.o.lo;have:=Hbr.o;omega);have HX13:=hZ (HX12.o.grow HF13.o HB13' HK13.o (fun b e=>(HW12.o.lt b e).1));have e13:w13.cell? ⟨b5+1,15,none⟩=some rv:=HX13.o.dst.cell 15;have f13:w13.frozen? ⟨b5+1,15,none⟩=false:=HX13.o.dst.frozen 15;have h13S:(fun W=>W.cell? ⟨b5+1,15,none⟩=some rv/\W.cell? ⟨b5,15,none⟩=some (.slice (some ⟨gr,o2,none⟩) rn r2)/\W.cell? ⟨gr,o2+j,none⟩=some ur) w13:=⟨e13,(HX13.o.src.cell 15).trans HYR.o,by rw[cell_of_row _ gr (o2+j) _ _ _ (HK13.o _ _ _ (by decide) Hb12.o)];exact HUR.o⟩;rw[<-HTR.o]at HU13;have hq:=HX13.o.put (z':=⟨.slice a1 d.take.length p1,.slice a2 d.give.length p2,.slice a3 d.back.length p3,.slice (some ⟨g13,0,none⟩) (j+1) cap13,.slice x1 d.brs.length x2⟩) (s':=3) 15 (.slice (some ⟨g13,0,none⟩) (j+1) cap13) rfl rfl Hne.o HX13.o.pt HX13.o.pg HX13.o.pb;obtain⟨w14,hw14⟩:=eX (w13.setCell ⟨b5+1,15,none⟩ (.slice (some ⟨g13,0,none⟩) (j+1) cap13));rw[hw14]at hq;have HX14:=hZ hq.1;have HW14:=hZ (qBJ HW13.o hq.2 (by decide));have HU14:=hZ (HU13.o.kp hq.2 (by decide));clear hq HX12 HX13 HW12 HW13 HU12 HU13 HB13 HB13' HF13 HK13 HE12 Hb12 Hb9 HX9 HW9 HU9 HP9 hcap13 hcap13b
     go_wp2_with fail
     refine hK.out _ _ (h13S) (fun hHeld=> ?_);clear hK K
     try simp only[Act.put,sX1,sX2,sX3]
     clear h13S;refine pU 10 74 ?_;refine lU 11 fun K hK=> ?_;go_simp;refine hK.out _ _ ?_;clear hK K
     try simp only[Act.put,sX1,sX2,sX3]
     refine dU ?_;clear hHeld;clear hw14 e13 f13
     go_wp2_with fail
     go_roundw
     case rel=>exact⟨j+1,_,_,by omega,by go_num,HX14,HW14,HU14⟩
     case measure=>simp[intOf];omega
    ·have hjn:j=rn:=by omega
     have hm1:¬(j:Int)<(rn:Int):=by omega
     have HR9:Hid (qAU 74 30 wr rv d.rows):=hZ (by
      have h8:=HU.o;have h9:=HW.o;rw[hjn,<-HRn.o,List.take_length]at h8;rw[hjn,<-HRn.o]at h9;exact h8.rows h9)
     obtain⟨rv1,rv2,e9, -,-⟩:=TSl.form HR9.o;have hcl:wr.cell? ⟨b5,15,none⟩=some (.slice r1 rn r2):=(HX.o.src.cell 15).trans HYr.o;have hrow2:qCP wr (b5+1) 0 (dcC d ⟨.slice a1 d.take.length p1,.slice a2 d.give.length p2,.slice a3 d.back.length p3,rv,.slice x1 d.brs.length x2⟩):=fun jj x hx=>by rw[Nat.zero_add];exact(HX.o.dst.cell jj).trans hx
     have hi2:(Tryd.prog.info? 34).map (·.size)=some (dcC d ⟨.slice a1 d.take.length p1,.slice a2 d.give.length p2,.slice a3 d.back.length p3,rv,.slice x1 d.brs.length x2⟩).length:=qEN;have hon:=qFl (e:=74) (et:=30) (w:=wr) (d:=d) (y:=⟨.slice a1 d.take.length p1,.slice a2 d.give.length p2,.slice a3 d.back.length p3,rv,.slice x1 d.brs.length x2⟩) ⟨HX.o.pt (by decide),HX.o.pg (by decide),HX.o.pb (by decide),HR9.o,HX.o.lx⟩;have hsz:(dcC d ⟨.slice a1 d.take.length p1,.slice a2 d.give.length p2,.slice a3 d.back.length p3,rv,.slice x1 d.brs.length x2⟩).length=17:=rfl;have hfold:List.foldl (fun(cs:Array Value) x=>cs.setIfInBounds x.snd x.fst) #[Value.int IntKind.i64 0,Value.string { data:=#[] },Value.int IntKind.i64 0,Value.bool false,Value.bool false,Value.bool false,Value.int IntKind.i64 0,Value.int IntKind.i64 0,Value.int IntKind.i64 0,Value.int IntKind.i64 0,Value.int IntKind.i64 0,Value.int IntKind.i64 0,Value.slice none 0 0,Value.slice none 0 0,Value.slice none 0 0,Value.slice none 0 0,Value.slice none 0 0] (dcC d ⟨.slice a1 d.take.length p1,.slice a2 d.give.length p2,.slice a3 d.back.length p3,rv,.slice x1 d.brs.length x2⟩).zipIdx=(dcC d ⟨.slice a1 d.take.length p1,.slice a2 d.give.length p2,.slice a3 d.back.length p3,rv,.slice x1 d.brs.length x2⟩).toArray:=qFi (dcC d ⟨.slice a1 d.take.length p1,.slice a2 d.give.length p2,.slice a3 d.back.length p3,rv,.slice x1 d.brs.length x2⟩) [] [Value.int IntKind.i64 0,Value.string { data:=#[] },Value.int IntKind.i64 0,Value.bool false,Value.bool false,Value.bool false,Value.int IntKind.i64 0,Value.int IntKind.i64 0,Value.int IntKind.i64 0,Value.int IntKind.i64 0,Value.int IntKind.i64 0,Value.int IntKind.i64 0,Value.slice none 0 0,Value.slice none 0 0,Value.slice none 0 0,Value.slice none 0 0,Value.slice none 0 0] hsz.symm;have HDC:Hid (qF4 74 30 wr (dcC d ⟨.slice a1 d.take.length p1,.slice a2 d.give.length p2,.slice a3 d.back.length p3,rv,.slice x1 d.brs.length x2⟩) d):=hZ ⟨_,rfl,⟨HX.o.pt (by decide),HX.o.pg (by decide),HX.o.pb (by decide),HR9.o,HX.o.lx⟩⟩;obtain⟨cs,hcs⟩:=eX (dcC d ⟨.slice a1 d.take.length p1,.slice a2 d.give.length p2,.slice a3 d.back.length p3,rv,.slice x1 d.brs.length x2⟩);rw[hcs]at hrow2 hi2 hon hsz hfold HDC;have HO9:=hZ HX.o.ow;have HBe:=hZ HX.o.bel;have HKv:=hZ HX.o.kv;clear hcs HX HW HU HR9 e9 hjn
     go_wp2_with (first|refine qBO rfl _ _ rfl (b5+1) 0 rfl cs _ hrow2 Tryd.underlying34 rfl hi2 ?_|(at_builtin;refine qA5 (W0:=wr) qGy rfl _ _ rfl cs 34 _ _ _ rfl rfl hsz hon HO9.o (Below.refl _ _) HBe.o.size (by omega) (by omega) ?_))
     intro g6 cap6 w6 HO6 HB6 HW6 hcap6 hat6;have HK6:=hZ (KpX.own (X:=[34]) HO9.o HW6.o (by simp));have HV6:Hid ((css++[cs]).length=(l.take (k+1)).length/\∀j (h:j<(l.take (k+1)).length) (h':j<(css++[cs]).length),qF4 74 30 w6 (css++[cs])[j] (l.take (k+1))[j]):=hZ (by
      have hk9:=HKv.o.trans HK6.o;simp only[HT.o];refine⟨by simp[HV.o.1],fun jj a b=> ?_⟩;have hl9:=HV.o.1;by_cases hx:jj<acc.length
      ·rw[List.getElem_append_left hx,List.getElem_append_left (by omega)]
       exact(HV.o.2 jj hx (by omega)).kp hk9 (by decide) (by decide) (by decide)
      ·have h3:jj=acc.length:=by simp at a;omega
       subst h3;rw[List.getElem_append_right (Nat.le_refl _),List.getElem_append_right (by omega)];simpa[hl9]using HDC.o.kp HK6.o (by decide) (by decide) (by decide))
     have HB7:=hZ (HBe.o.trans HB6.o);have hfl:css.flatten++cs=(css++[cs]).flatten:=by simp
     rw[hfl]at HO6;clear hfl hfold hon hsz hrow2 hi2 HO9 HBe HKv HK6 HW6 HB6 HDC HV hcap6 hat6 hcl hm1;obtain⟨css',hcss'⟩:∃c,css++[cs]=c:=⟨_,rfl⟩;rw[hcss']at HO6 HV6;clear hcss'
     go_wp2_with fail
     go_roundw
     case rel=>exact⟨k+1,css',by omega,by go_num,HO6,HV6,HB7⟩
     case measure=>simp[intOf];omega
  ·have hn1:¬(k:Int)<(n:Int):=by omega
   have hkn:k=n:=by omega
   have HP:Hid (qCQ 74 30 34 wo _ l):=hZ (by
    have h8:=HV.o;have h9:=HO.o;have hT:l.take k=l:=by rw[hkn,<-Hn.o,List.take_length]
    simp only[hT]at h8;rw[hkn,<-Hn.o]at h9;refine TSl.of_own (css:=css) (base:=w.heap.size) (n:=l.length) h9 rfl (fun cs hc=> ?_) h8.1 (fun j a b=>h8.2 j a b);obtain⟨j,hj,rfl⟩:=List.mem_iff_getElem.1 hc;obtain⟨y,hy,-⟩:=h8.2 j (by rw[<-h8.1];exact hj) hj;rw[hy];rfl)
   have HQ:Hid (qKx wo w.heap.size _ l):=hZ (by
    have h8:=HV.o;have h9:=HO.o;have hT:l.take k=l:=by rw[hkn,<-Hn.o,List.take_length]
    simp only[hT]at h8;rw[hkn,<-Hn.o]at h9;exact⟨css,h9,h8.1,h8.2⟩)
   clear HO HV hkn
   go_wp2_with fail
   go_ret;exact⟨⟨_,rfl,HP.o,HQ.o⟩,HB.o⟩
theorem qHJ(v:Value)(l:List Dc)(w:World)(h:qCQ 68 58 61 w v l)(hl:l.length<=1000000)(hD:∀d∈l,qKZ d):
 Calls Tryd.prog 21 #[v] w fun e w'=>(∃u,e=.returned u/\qCQ 74 30 34 w' u l)/\Below w.heap.size w w':=by
 refine(qES v l w h hl hD).mono ?_;rintro e w' ⟨⟨u,rfl,hu,-⟩,hB⟩;exact⟨⟨u,rfl,hu⟩,hB⟩
theorem qEi(s:Bs)(w:World)(hs:qBt s=true)(hK:qA2 w):
 Calls Tryd.prog 96 #[.string ⟨s.toArray⟩] w fun e w'=>e=.returned (.bool true)/\Below w.heap.size w w':=by
 have hsz:(⟨s.toArray⟩:ByteArray).size=s.length:=by show s.toArray.size=_;simp
 have hx:∃t,lxs ⟨s.toArray⟩=.ok [t]/\t.kind=0/\t.text=s:=by
  unfold qBt at hs;unfold lxs;rw[hsz]
  show ∃t,(if 8192<s.length then Except.error (0,4)else lx s.length s)=Except.ok [t]/\t.kind=0/\t.text=s
  split at hs
  ·next t h=>exact⟨t,h,by simpa using hs⟩
  ·cases hs
 obtain⟨t,ht,hk,htx⟩:=hx;have hl:s.length<=8192:=by
  unfold lxs at ht;rw[hsz]at ht
  split at ht
  ·cases ht
  ·omega
 have HC:=hZ (qEA ⟨s.toArray⟩ w (by rw[hsz];omega) hK);have HT:=hZ ht;have Hk:=hZ hk;have Htx:=hZ htx;clear ht hk htx hs hl hsz
 go_enter Tryd.func96,Tryd.ntmps96
 go_wp2_with fail
 refine HC.o.mono ?_;rintro e w1 ⟨hB1,⟨ts,v,hx,hlen,rfl,hown⟩|⟨k,er,hx,rfl,her⟩⟩;rotate_left
 ·rw[HT.o]at hx;cases hx
 obtain rfl:[t]=ts:=by rw[HT.o]at hx;injection hx
 have htk:qDG 55 w1 v [t]:=qDG.of_own hown;obtain⟨g,off,cap,rfl, -, -, -,t0,t1, -,-⟩:=htk.head;rw[Hk.o]at t0;rw[Htx.o]at t1;have HB:=hZ hB1;simp only[List.length_nil,Nat.zero_add];clear hB1 hx hlen hown htk HC HT
 go_wp2_with fail
 go_ret;exact⟨rfl,HB.o⟩
theorem qKC(k:Int)(nm:ByteArray)(a:Int)(ob mi co:Bool)(we bi le ti ch f:Int)(t1 g1 b1 r1 x1:Option Addr)(tn t2 gn g2 bn b2 rn r2 xn x2:Nat)(w:World)(g o:Nat)(rows:List (List Pr))
 (hR:qAU 68 58 w (.slice r1 rn r2) rows)(hro:∀r∈rows,qEt r=true)(hln:tn<=1000000/\gn<=1000000/\bn<=1000000/\rn<=1000000/\xn<=1000000)
 (c0:w.cell? ⟨g,o,none⟩=some (.int .i64 k))(c1:w.cell? ⟨g,o+1,none⟩=some (.string nm))(c2:w.cell? ⟨g,o+2,none⟩=some (.int .i64 a))(c3:w.cell? ⟨g,o+3,none⟩=some (.bool ob))(c4:w.cell? ⟨g,o+4,none⟩=some (.bool mi))(c5:w.cell? ⟨g,o+5,none⟩=some (.bool co))(c6:w.cell? ⟨g,o+6,none⟩=some (.int .i64 we))(c7:w.cell? ⟨g,o+7,none⟩=some (.int .i64 bi))(c8:w.cell? ⟨g,o+8,none⟩=some (.int .i64 le))(c9:w.cell? ⟨g,o+9,none⟩=some (.int .i64 ti))(c10:w.cell? ⟨g,o+10,none⟩=some (.int .i64 ch))(c11:w.cell? ⟨g,o+11,none⟩=some (.int .i64 f))(c12:w.cell? ⟨g,o+12,none⟩=some (.slice t1 tn t2))(c13:w.cell? ⟨g,o+13,none⟩=some (.slice g1 gn g2))(c14:w.cell? ⟨g,o+14,none⟩=some (.slice b1 bn b2))(c15:w.cell? ⟨g,o+15,none⟩=some (.slice r1 rn r2))(c16:w.cell? ⟨g,o+16,none⟩=some (.slice x1 xn x2))
 (hs:(k=0/\ti=0/\ch=0/\f=0/\tn=0/\gn=0/\bn=0/\rn=0/\xn=0/\0<=bi/\bi<=2)\/((k=1\/k=2)/\ob=false/\mi=false/\co=false/\we=0/\bi=0/\rn=0/\xn=0)\/
  (k=3/\ob=false/\mi=false/\co=false/\we=0/\bi=0/\ti=0/\ch=0/\f=0/\tn=0/\gn=0/\bn=0/\le=0/\xn=0/\0<rn)\/
  (k=4/\ob=false/\mi=false/\co=false/\we=0/\bi=0/\ti=0/\ch=0/\f=0/\tn=0/\gn=0/\bn=0/\le=0/\rn=0/\0<xn)):
 Calls Tryd.prog 56 #[.pointer (some ⟨g,o,none⟩)] w fun e w'=>e=.returned (.bool true)/\Below w.heap.size w w':=by
 obtain⟨hl1,hl2,hl3,hl4,hl5⟩:=hln;have HR:=hZ hR;have HRo:=hZ hro;have hrn:rn=rows.length:=by
  obtain⟨_,_,e, -,-⟩:=TSl.form hR;injection e
 clear hR hro;rcases hs with ⟨rfl,rfl,rfl,rfl,rfl,rfl,rfl,rfl,rfl,hb1,hb2⟩|⟨hk,rfl,rfl,rfl,rfl,rfl,rfl,rfl⟩|⟨rfl,rfl,rfl,rfl,rfl,rfl,rfl,rfl,rfl,rfl,rfl,rfl,rfl,rfl,hp⟩|⟨rfl,rfl,rfl,rfl,rfl,rfl,rfl,rfl,rfl,rfl,rfl,rfl,rfl,rfl,hp⟩
 ·clear hrn HR HRo
  have END0:True:=trivial;cases ob with
  |true=>(go_enter Tryd.func56,Tryd.ntmps56;go_wp2_with fail;go_region;go_wp2_with fail;go_region;go_wp2_with fail;go_ret;exact⟨rfl,by repeat (first|exact Below.refl _ _|refine Below.drew ?_|refine below_drewN ?_ _)⟩)
  |false=>
   cases mi with
   |true=>(go_enter Tryd.func56,Tryd.ntmps56;go_wp2_with fail;go_region;go_wp2_with fail;go_region;go_wp2_with fail;go_ret;exact⟨rfl,by repeat (first|exact Below.refl _ _|refine Below.drew ?_|refine below_drewN ?_ _)⟩)
   |false=>
    cases co with
    |true=>(go_enter Tryd.func56,Tryd.ntmps56;go_wp2_with fail;go_region;go_wp2_with fail;go_region;go_wp2_with fail;go_ret;exact⟨rfl,by repeat (first|exact Below.refl _ _|refine Below.drew ?_|refine below_drewN ?_ _)⟩)
    |false=>
     by_cases hw:we=0
     ·subst hw
      by_cases hbb:bi=0
      ·subst hbb
       (go_enter Tryd.func56,Tryd.ntmps56;go_wp2_with fail;go_region;go_wp2_with fail;go_region;go_wp2_with fail;go_ret;exact⟨rfl,by repeat (first|exact Below.refl _ _|refine Below.drew ?_|refine below_drewN ?_ _)⟩)
      ·have e1:(bi==0)=false:=by simpa using hbb
       have e2:(bi != 0)=true:=by simpa using hbb
       (go_enter Tryd.func56,Tryd.ntmps56;go_wp2_with fail;go_region;go_wp2_with fail;go_region;go_wp2_with fail;go_ret;exact⟨rfl,by repeat (first|exact Below.refl _ _|refine Below.drew ?_|refine below_drewN ?_ _)⟩)
     ·have e1:(we==0)=false:=by simpa using hw
      have e2:(we != 0)=true:=by simpa using hw
      (go_enter Tryd.func56,Tryd.ntmps56;go_wp2_with fail;go_region;go_wp2_with fail;go_region;go_wp2_with fail;go_ret;exact⟨rfl,by repeat (first|exact Below.refl _ _|refine Below.drew ?_|refine below_drewN ?_ _)⟩)
 ·clear hrn HR HRo
  rcases hk with rfl|rfl
  ·by_cases h1:ti=0
   ·subst h1
    by_cases h2:ch=0
    ·subst h2
     by_cases h3:f=0
     ·subst h3
      by_cases h4:0<(tn:Int)+gn+bn
      ·(go_enter Tryd.func56,Tryd.ntmps56;go_wp2_with fail;go_region;go_wp2_with fail;go_region;go_wp2_with fail;go_ret;exact⟨rfl,by repeat (first|exact Below.refl _ _|refine Below.drew ?_|refine below_drewN ?_ _)⟩)
      ·have h5:tn=0/\gn=0/\bn=0:=by omega
       obtain⟨rfl,rfl,rfl⟩:=h5
       (go_enter Tryd.func56,Tryd.ntmps56;go_wp2_with fail;go_region;go_wp2_with fail;go_region;go_wp2_with fail;go_ret;exact⟨rfl,by repeat (first|exact Below.refl _ _|refine Below.drew ?_|refine below_drewN ?_ _)⟩)
     ·have e1:(f==0)=false:=by simpa using h3
      have e2:(f != 0)=true:=by simpa using h3
      (go_enter Tryd.func56,Tryd.ntmps56;go_wp2_with fail;go_region;go_wp2_with fail;go_region;go_wp2_with fail;go_ret;exact⟨rfl,by repeat (first|exact Below.refl _ _|refine Below.drew ?_|refine below_drewN ?_ _)⟩)
    ·have e1:(ch==0)=false:=by simpa using h2
     have e2:(ch != 0)=true:=by simpa using h2
     (go_enter Tryd.func56,Tryd.ntmps56;go_wp2_with fail;go_region;go_wp2_with fail;go_region;go_wp2_with fail;go_ret;exact⟨rfl,by repeat (first|exact Below.refl _ _|refine Below.drew ?_|refine below_drewN ?_ _)⟩)
   ·have e1:(ti==0)=false:=by simpa using h1
    have e2:(ti != 0)=true:=by simpa using h1
    (go_enter Tryd.func56,Tryd.ntmps56;go_wp2_with fail;go_region;go_wp2_with fail;go_region;go_wp2_with fail;go_ret;exact⟨rfl,by repeat (first|exact Below.refl _ _|refine Below.drew ?_|refine below_drewN ?_ _)⟩)
  ·by_cases h1:ti=0
   ·subst h1
    by_cases h2:ch=0
    ·subst h2
     by_cases h3:f=0
     ·subst h3
      by_cases h4:0<(tn:Int)+gn+bn
      ·(go_enter Tryd.func56,Tryd.ntmps56;go_wp2_with fail;go_region;go_wp2_with fail;go_region;go_wp2_with fail;go_ret;exact⟨rfl,by repeat (first|exact Below.refl _ _|refine Below.drew ?_|refine below_drewN ?_ _)⟩)
      ·have h5:tn=0/\gn=0/\bn=0:=by omega
       obtain⟨rfl,rfl,rfl⟩:=h5
       (go_enter Tryd.func56,Tryd.ntmps56;go_wp2_with fail;go_region;go_wp2_with fail;go_region;go_wp2_with fail;go_ret;exact⟨rfl,by repeat (first|exact Below.refl _ _|refine Below.drew ?_|refine below_drewN ?_ _)⟩)
     ·have e1:(f==0)=false:=by simpa using h3
      have e2:(f != 0)=true:=by simpa using h3
      (go_enter Tryd.func56,Tryd.ntmps56;go_wp2_with fail;go_region;go_wp2_with fail;go_region;go_wp2_with fail;go_ret;exact⟨rfl,by repeat (first|exact Below.refl _ _|refine Below.drew ?_|refine below_drewN ?_ _)⟩)
    ·have e1:(ch==0)=false:=by simpa using h2
     have e2:(ch != 0)=true:=by simpa using h2
     (go_enter Tryd.func56,Tryd.ntmps56;go_wp2_with fail;go_region;go_wp2_with fail;go_region;go_wp2_with fail;go_ret;exact⟨rfl,by repeat (first|exact Below.refl _ _|refine Below.drew ?_|refine below_drewN ?_ _)⟩)
   ·have e1:(ti==0)=false:=by simpa using h1
    have e2:(ti != 0)=true:=by simpa using h1
    (go_enter Tryd.func56,Tryd.ntmps56;go_wp2_with fail;go_region;go_wp2_with fail;go_region;go_wp2_with fail;go_ret;exact⟨rfl,by repeat (first|exact Below.refl _ _|refine Below.drew ?_|refine below_drewN ?_ _)⟩)
 ·go_enter Tryd.func56,Tryd.ntmps56
  have hp1:¬(rn:Int)=0:=by omega
  have hp2:((rn:Int)==0)=false:=by simpa using hp1
  have Hrn:=hZ hrn;clear hrn
  go_wp2_with fail
  go_region
  go_wp2_with fail
  go_loopw [165] (fun iv wr=>∃k:Nat,k<=rn/\iv=.int .i64 k/\Hid (Below w.heap.size w wr)) (fun iv _=>rn-(intOf iv).toNat)
  case atStart=>exact⟨0,by omega,rfl,hZ (by repeat (first|exact Below.refl _ _|refine Below.drew ?_|refine below_drewN ?_ _))⟩
  case round=>
   obtain⟨k,hk,rfl,HW⟩:=hrel;by_cases hlt:k<rn
   ·have h1:k<rows.length:=by have:=Hrn.o;omega
    obtain⟨gr,o2,cpr,csr,ur,hv,hbr,hur0,hpr⟩:=qAU.nthB (HR.o.kp (KpX.of_below (X:=[]) HW.o) (by simp) (by simp)) k h1;have hru:=HRo.o _ (List.getElem_mem h1);injection hv with hv hq1 hv2;subst hv hv2;have q3:wr.cell? ⟨gr,o2+k,none⟩=some ur:=by rw[cell_of_row _ gr (o2+k) _ _ _ hbr];exact hur0
    obtain⟨r,hr⟩:=eX (rows[k]);rw[hr]at hru hpr;cases r with
    |nil=>cases hru
    |cons p r=>
     obtain⟨gp,o3,cpp,rfl,y0,y1a,y2⟩:=qAD.nth hpr 0 (by simp);have hn:p.name=[]:=by simpa[qEt]using hru
     have y1:wr.cell? ⟨gp,o3+1,none⟩=some (.string ⟨#[]⟩):=by
      have:((p::r)[0]'(by simp)).name=[]:=hn;rw[this]at y1a;simpa using y1a
     clear y1a;have hn0:(0:Int)<=(k:Int):=by omega
     have hn1:(k:Int)<(rn:Int):=by omega
     have hl9:(p::r).length=r.length+1:=rfl;rw[hl9]at q3;have hp3:¬((r.length+1:Nat):Int)=0:=by omega
     have hp4:(((r.length+1:Nat):Int)==0)=false:=by simpa using hp3
     have hp5:(0:Int)<((r.length+1:Nat):Int):=by omega
     clear hru hpr hr hq1 h1 hbr hur0 y0 y2 hn hl9;obtain⟨m,hm⟩:=eX (r.length+1);rw[hm]at q3 hp3 hp4 hp5;have hp6:¬m=0:=by omega
     have hp7:(m==0)=false:=by simpa using hp6
     clear hm
     go_wp2_with fail
     exact⟨⟨k+1,by omega,by go_num,HW⟩,by simp[intOf];omega⟩
   ·have hn1:¬(k:Int)<(rn:Int):=by omega
    go_wp2_with fail
    go_ret;exact⟨rfl,HW.o⟩
 ·clear hrn HR HRo
  have hp1:(0:Int)<xn:=by omega
  go_enter Tryd.func56,Tryd.ntmps56
  go_wp2_with fail
  go_region
  go_wp2_with fail
  go_ret;exact⟨rfl,by repeat (first|exact Below.refl _ _|refine Below.drew ?_|refine below_drewN ?_ _)⟩
structure DPt(w:World)(g o:Nat)(d:Dc)(y:Ls):Prop where
 row:qCP w g o (dcC d y)
 ls:LPar w d y
theorem DPt.lt{w:World}{g o:Nat}{d:Dc}{y:Ls}(h:DPt w g o d y):g<w.heap.size:=World.block_lt_of_cell? w ⟨g,o,none⟩ (h.row 0 _ rfl)
theorem DPt.below{w w':World}{g o:Nat}{d:Dc}{y:Ls}(h:DPt w g o d y)(hb:Below w.heap.size w w'):DPt w' g o d y:=
 ⟨fun j v hv=>(hb.cell (p:=⟨g,o+j,none⟩) h.lt).trans (h.row j v hv),h.ls.kp (KpX.of_below (X:=[]) hb) (by simp) (by simp) (by simp)⟩
theorem qEd{l:List Pr}(h:qAJ l=true)(k:Nat)(hk:k<l.length):qBt l[k].name=true:=by
 unfold qAJ at h;rw[List.all_eq_true]at h;exact h _ (List.getElem_mem hk)
theorem qJq(d:Dc)(y:Ls)(w:World)(g o:Nat)(h:DPt w g o d y)(hn:qDL d=true)(hro:∀r∈d.rows,qEt r=true)(hl:DL 10000 d)(hK:qA2 w):
 Calls Tryd.prog 57 #[.pointer (some ⟨g,o,none⟩)] w fun e w'=>e=.returned (.bool true)/\Below w.heap.size w w':=by
 unfold qDL at hn;simp only[Bool.and_eq_true]at hn;obtain⟨⟨hn0,⟨hnt,hng⟩,hnb⟩,hnr⟩:=hn;rw[List.all_eq_true]at hnr;obtain⟨t1,t2,eyt, -,-⟩:=TSl.form h.ls.t;obtain⟨g1,g2,eyg, -,-⟩:=TSl.form h.ls.g;obtain⟨b1,b2,eyb, -,-⟩:=TSl.form h.ls.b;have H:=hZ h;have HC0:=hZ (qEi d.name w hn0 hK);have c1:w.cell? ⟨g,o+1,none⟩=some (.string ⟨d.name.toArray⟩):=h.row 1 _ rfl;have HN:Hid (qAJ d.take=true/\qAJ d.give=true/\qAJ d.back=true):=hZ ⟨hnt,hng,hnb⟩;have HR:=hZ hnr;have HRo:=hZ hro;have HL:=hZ hl;have HK:=hZ hK;clear h hn0 hnt hng hnb hnr hro hl hK
 go_enter Tryd.func57,Tryd.ntmps57
 go_wp2_with fail
 refine HC0.o.mono ?_;rintro e w1 ⟨rfl,hB1⟩;have HB1:=hZ hB1;have H1:=hZ (H.o.below hB1);have c12:w1.cell? ⟨g,o+12,none⟩=some (.slice t1 d.take.length t2):=by have:=H1.o.row 12 _ rfl;rw[this,eyt]
 have c13:w1.cell? ⟨g,o+13,none⟩=some (.slice g1 d.give.length g2):=by have:=H1.o.row 13 _ rfl;rw[this,eyg]
 have c14:w1.cell? ⟨g,o+14,none⟩=some (.slice b1 d.back.length b2):=by have:=H1.o.row 14 _ rfl;rw[this,eyb]
 have HY:Hid (y.t=.slice t1 d.take.length t2/\y.g=.slice g1 d.give.length g2/\y.b=.slice b1 d.back.length b2):=hZ ⟨eyt,eyg,eyb⟩;clear eyt eyg eyb;obtain⟨b,hb⟩:=eX w1.heap.size;obtain⟨w2,hw2⟩:=eX (w1.drew.alloc (.cells #[.slice t1 d.take.length t2,.slice g1 d.give.length g2,.slice b1 d.back.length b2] 58));have HBk:Hid (qAy w2 b 58 [.slice t1 d.take.length t2,.slice g1 d.give.length g2,.slice b1 d.back.length b2]):=hZ (by rw[<-hw2,<-hb];exact qAy.new w1.drew _ _);have hB2:Below w1.heap.size w1 w2:=by rw[<-hw2];exact(qAc w1).trans (qAa w1.drew _)
 have HB2:=hZ (HB1.o.trans (hB2.mono HB1.o.size));have H2:=hZ (H1.o.below hB2);have HK2:=hZ (HK.o.below HB2.o HK.o.lt);have HZ:Hid (w.heap.size<=b/\b<w2.heap.size):=hZ ⟨by rw[<-hb];exact HB1.o.size,HBk.o.lt⟩;clear hB1 HC0 c1 hB2 H1 HB1
 go_wp2_with fail
 refine qAs [12] (fun W=>W.cell? ⟨g,o+12,none⟩=some (.slice t1 d.take.length t2)/\W.cell? ⟨g,o+13,none⟩=some (.slice g1 d.give.length g2)/\W.cell? ⟨g,o+14,none⟩=some (.slice b1 d.back.length b2)) (by kernel_rfl) (⟨c12,c13,c14⟩) (fun hHeld=> ?_);refine pU 0 17 ?_;refine pU 1 18 ?_;refine pU 2 19 ?_;refine qAb 3 20 (v:= ?_) rfl rfl (by kernel_rfl) (by kernel_rfl) (by kernel_rfl) (by kernel_rfl) (by kernel_rfl) (fun _ _ _ h=>h) (by rfl) ?_ (by assumption) ?_;rotate_left
 ·(intro w hSw;go_simp;first|done|with_reducible rfl)
 simp only[sX1,sX2,sX3];refine pU 4 21 ?_;refine pU 5 22 ?_;refine pU 6 23 ?_;refine qAb 7 24 (v:= ?_) rfl rfl (by kernel_rfl) (by kernel_rfl) (by kernel_rfl) (by kernel_rfl) (by kernel_rfl) (fun _ _ _ h=>h) (by rfl) ?_ (by assumption) ?_;rotate_left
 ·(intro w hSw;go_simp;first|done|with_reducible rfl)
 simp only[sX1,sX2,sX3];refine pU 8 25 ?_;refine pU 9 26 ?_;refine pU 10 27 ?_;refine qAb 11 28 (v:= ?_) rfl rfl (by kernel_rfl) (by kernel_rfl) (by kernel_rfl) (by kernel_rfl) (by kernel_rfl) (fun _ _ _ h=>h) (by rfl) ?_ (by assumption) ?_;rotate_left
 ·(intro w hSw;go_simp;first|done|with_reducible rfl)
 simp only[sX1,sX2,sX3];refine pU 14 31 ?_;clear hHeld c12 c13 c14;refine lU 12 fun K hK=> ?_;go_simp;refine hK.out _ _ ?_;clear hK K
 try simp only[Act.put,sX1,sX2,sX3]
 refine pU 13 30 ?_;refine dU ?_;clear hw2 hb
 go_wp2_with fail
 go_loopw [31] (fun iv wr=>∃j:Nat,j<=3/\iv=.int .i64 j/\Hid (qAy wr b 58 [.slice t1 d.take.length t2,.slice g1 d.give.length g2,.slice b1 d.back.length b2])/\Hid (DPt wr g o d y)/\Hid (qA2 wr)/\Hid (Below w.heap.size w wr)) (fun iv _=>3-(intOf iv).toNat)
 case atStart=>exact⟨0,by omega,rfl,HBk,H2,HK2,HB2⟩
 case round=>
  clear HBk H2 HK2 HB2;obtain⟨j,hj,rfl,HBk,H2,HK2,HB2⟩:=hrel;by_cases hlt:j<3
  ·have hsel:∃u l,wr.cell? ⟨b,j,none⟩=some u/\qAD 68 wr u l/\qAJ l=true/\l.length<=10000:=by
    have h3:j=0\/j=1\/j=2:=by omega
    rcases h3 with rfl|rfl|rfl
    ·exact⟨_,_,HBk.o.cell 0,by rw[<-HY.o.1];exact H2.o.ls.t,HN.o.1,HL.o.1⟩
    ·exact⟨_,_,HBk.o.cell 1,by rw[<-HY.o.2.1];exact H2.o.ls.g,HN.o.2.1,HL.o.2.1⟩
    ·exact⟨_,_,HBk.o.cell 2,by rw[<-HY.o.2.2];exact H2.o.ls.b,HN.o.2.2,HL.o.2.2.1⟩
   obtain⟨u,l,cu,hul,hnl,hll⟩:=hsel;obtain⟨a9,c9,rfl, -,-⟩:=TSl.form hul;obtain⟨n,hn⟩:=eX l.length;have HUL:=hZ hul;have HNL:=hZ hnl;have Hn:=hZ hn;rw[hn]at cu hll;have hn0:(0:Int)<=(j:Int):=by omega
   have hn1:(j:Int)<3:=by omega
   clear hul hnl hn
   go_wp2_with fail
   clear cu;obtain⟨wo,hwo⟩:∃W,W=wr:=⟨_,rfl⟩;subst hwo
   go_loopw [37] (fun iv wr=>∃k:Nat,k<=n/\iv=.int .i64 k/\Hid (Below wo.heap.size wo wr)) (fun iv _=>n-(intOf iv).toNat)
   case atStart=>exact⟨0,by omega,rfl,hZ (Below.refl _ _)⟩
   case round=>
    obtain⟨k,hk,rfl,HW⟩:=hrel;by_cases hkn:k<n
    ·have h1:k<l.length:=by have:=Hn.o;omega
     obtain⟨gp,op,cp,hv,y0,y1,y2⟩:=qAD.nth (HUL.o.kp (KpX.of_below (X:=[]) HW.o) (by simp)) k h1;injection hv with hv hq1 hv2;subst hv hv2;have hnm:=qEd HNL.o k h1;obtain⟨p,hp⟩:=eX (l[k]);rw[hp]at y0 y1 y2 hnm;obtain⟨w5,hw5⟩:=eX (wr.alloc (.cells #[.int .i64 p.n,.string ⟨p.name.toArray⟩,.int .i64 p.at_] 68));have hB5:Below wr.heap.size wr w5:=by rw[<-hw5];exact qAa _ _
     have z5:w5.cell? ⟨wr.heap.size,1,none⟩=some (.string ⟨p.name.toArray⟩):=by rw[<-hw5];simp
     have HW5:=hZ (HW.o.trans (hB5.mono HW.o.size));have HC5:=hZ (qEi p.name w5 hnm (HK2.o.below HW5.o HK2.o.lt));have hm0:(0:Int)<=(k:Int):=by omega
     have hm1:(k:Int)<(n:Int):=by omega
     clear hp hq1 h1 hnm hB5
     go_wp2_with fail
     refine HC5.o.mono ?_;rintro e w6 ⟨rfl,hB6⟩;have HW6:=hZ (HW5.o.trans (hB6.mono HW5.o.size));clear hB6 HC5 hw5 z5 y0 y1 y2 HW5
     go_wp2_with fail
     exact⟨⟨k+1,by omega,by go_num,HW6⟩,by simp[intOf];omega⟩
    ·have hm1:¬(k:Int)<(n:Int):=by omega
     have hBk':=HW.o
     go_wp2_with fail
     exact⟨⟨j+1,by omega,by go_num,hZ (HBk.o.below hBk' HBk.o.lt),hZ (H2.o.below hBk'),hZ (HK2.o.below hBk' HK2.o.lt),hZ (HB2.o.trans (hBk'.mono HB2.o.size))⟩,by simp[intOf];omega⟩
  ·have hn1:¬(j:Int)<3:=by omega
   obtain⟨r1,r2,hyr, -,-⟩:=TSl.form H2.o.ls.r;obtain⟨rn,hrn⟩:=eX d.rows.length;have c15:wr.cell? ⟨g,o+15,none⟩=some (.slice r1 rn r2):=by have:=H2.o.row 15 _ rfl;rw[this,hyr,hrn]
   have hrm:rn<=10000:=by have:=HL.o.2.2.2.1;omega
   have Hrn:=hZ hrn;have Hyr:Hid (y.r=.slice r1 rn r2):=hZ (by rw[hyr,hrn]);clear hrn hyr
   go_wp2_with fail
   clear c15
   go_loopw [52] (fun iv wr=>∃j:Nat,j<=rn/\iv=.int .i64 j/\Hid (DPt wr g o d y)/\Hid (qA2 wr)/\Hid (Below w.heap.size w wr)) (fun iv _=>rn-(intOf iv).toNat)
   case atStart=>exact⟨0,by omega,rfl,H2,HK2,HB2⟩
   case round=>
    clear HBk H2 HK2 HB2;obtain⟨j2,hj2,rfl,H2,HK2,HB2⟩:=hrel;by_cases hlt2:j2<rn
    ·have h1:j2<d.rows.length:=by have:=Hrn.o;omega
     obtain⟨gr,o2,cpr,csr,ur,hv,hbr,hur0,hpr⟩:=qAU.nthB H2.o.ls.r j2 h1;have hru:=HRo.o _ (List.getElem_mem h1);have hrl:=HL.o.2.2.2.2.2 _ (List.getElem_mem h1);have hrm2:=HR.o _ (List.getElem_mem h1);rw[Hyr.o]at hv;injection hv with hv hq1 hv2;have q3:wr.cell? ⟨gr,o2+j2,none⟩=some ur:=by rw[cell_of_row _ gr (o2+j2) _ _ _ hbr];exact hur0
     obtain⟨r,hr⟩:=eX (d.rows[j2]);rw[hr]at hru hpr hrl hrm2;cases r with
     |nil=>cases hru
     |cons p r=>
      obtain⟨a9,c9,rfl,hc9,hc99⟩:=TSl.form hpr;obtain⟨gp,op,rfl,htl⟩:=TSl.tail hpr;have HTl:=hZ htl;have Hnm:Hid (qAJ r=true):=hZ hrm2;have hl9:(p::r).length=r.length+1:=rfl;rw[hl9]at q3 hc9 HTl;simp only[List.length_cons]at hrl;obtain⟨m,hm⟩:=eX r.length;rw[hm]at q3 hrl hc9 HTl;have Hm:=hZ hm;have hn0:(0:Int)<=(j2:Int):=by omega
      have hn2:(j2:Int)<(rn:Int):=by omega
      subst hv;clear hru hpr hr hq1 hv2 h1 hbr hur0 hl9 hrm2 hm htl;obtain⟨wo,hwo⟩:∃W,W=wr:=⟨_,rfl⟩;subst hwo;by_cases hc1:c9=1
      ·obtain rfl:m=0:=by omega
       subst hc1;clear hc9
       go_wp2_with fail
       clear q3
       go_loopw [59] (fun iv wr=>∃k:Nat,k<=0/\iv=.int .i64 k/\Hid (Below wo.heap.size wo wr)) (fun iv _=>0-(intOf iv).toNat)
       case atStart=>exact⟨0,by omega,rfl,hZ (Below.refl _ _)⟩
       case round=>
        obtain⟨k,hk,rfl,HW⟩:=hrel;obtain rfl:k=0:=by omega
        have hBk':=HW.o
        go_wp2_with fail
        exact⟨⟨j2+1,by omega,by go_num,hZ (H2.o.below hBk'),hZ (HK2.o.below hBk' HK2.o.lt),hZ (HB2.o.trans (hBk'.mono HB2.o.size))⟩,by simp[intOf];omega⟩
      ·have hc2:1<c9:=by omega
       have HTl:=hZ (HTl.o (some ⟨gp,op+3,none⟩) (fun _=>rfl));rw[show m+1-1=m by omega]at HTl
       go_wp2_with fail
       clear q3
       go_loopw [59] (fun iv wr=>∃k:Nat,k<=m/\iv=.int .i64 k/\Hid (Below wo.heap.size wo wr)) (fun iv _=>m-(intOf iv).toNat)
       case atStart=>exact⟨0,by omega,rfl,hZ (Below.refl _ _)⟩
       case round=>
        obtain⟨k,hk,rfl,HW⟩:=hrel;by_cases hkn:k<m
        ·have h1:k<r.length:=by have:=Hm.o;omega
         have hT9:qAD 68 wo (.slice (some ⟨gp,op+3,none⟩) m (c9-1)) r:=HTl.o;obtain⟨gq,oq,cq,hv,y0,y1,y2⟩:=qAD.nth (hT9.kp (KpX.of_below (X:=[]) HW.o) (by simp)) k h1;injection hv with hv hq1 hv2;injection hv with hv;injection hv with e1 e2;subst e1 e2;have hnm:=qEd Hnm.o k h1;obtain⟨p9,hp⟩:=eX (r[k]);rw[hp]at y0 y1 y2 hnm;obtain⟨w5,hw5⟩:=eX (wr.alloc (.cells #[.int .i64 p9.n,.string ⟨p9.name.toArray⟩,.int .i64 p9.at_] 68));have hB5:Below wr.heap.size wr w5:=by rw[<-hw5];exact qAa _ _
         have z5:w5.cell? ⟨wr.heap.size,1,none⟩=some (.string ⟨p9.name.toArray⟩):=by rw[<-hw5];simp
         have HW5:=hZ (HW.o.trans (hB5.mono HW.o.size));have HC5:=hZ (qEi p9.name w5 hnm (HK2.o.below HW5.o HK2.o.lt));have hm0:(0:Int)<=(k:Int):=by omega
         have hm1:(k:Int)<(m:Int):=by omega
         clear hp hq1 hv2 h1 hnm hB5 hT9
         go_wp2_with fail
         refine HC5.o.mono ?_;rintro e w6 ⟨rfl,hB6⟩;have HW6:=hZ (HW5.o.trans (hB6.mono HW5.o.size));clear hB6 HC5 hw5 z5 y0 y1 y2 HW5
         go_wp2_with fail
         exact⟨⟨k+1,by omega,by go_num,HW6⟩,by simp[intOf];omega⟩
        ·have hm1:¬(k:Int)<(m:Int):=by omega
         have hBk':=HW.o
         go_wp2_with fail
         exact⟨⟨j2+1,by omega,by go_num,hZ (H2.o.below hBk'),hZ (HK2.o.below hBk' HK2.o.lt),hZ (HB2.o.trans (hBk'.mono HB2.o.size))⟩,by simp[intOf];omega⟩
    ·have hn2:¬(j2:Int)<(rn:Int):=by omega
     go_wp2_with fail
     go_ret;exact⟨rfl,HB2.o⟩
end Go.Proofs.YtpmnbcdjoomgcaaDoor
