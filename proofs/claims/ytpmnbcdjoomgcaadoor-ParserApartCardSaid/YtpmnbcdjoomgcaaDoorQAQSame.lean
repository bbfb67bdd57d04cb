/- The reference's comparison of declarations: pairs. -/
import Derived.Test.YtpmnbcdjoomgcaaDoorQAPCatch
import Derived.Test.YtpmnbcdjoomgcaaDoorQAQOnce
import Derived.Test.YtpmnbcdjoomgcaaDoorQAPOpts
import Derived.Deep.CutRange
import Derived.Deep.CutBlock
import Derived.Test.YtpmnbcdjoomgcaaDoorQAGApp
import Derived.Test.YtpmnbcdjoomgcaaDoorQAPText
set_option linter.unusedVariables false
set_option linter.unusedSimpArgs false
set_option maxHeartbeats 4000000
set_option maxRecDepth 100000
namespace Go.Proofs.YtpmnbcdjoomgcaaDoor
open Go.RowKit
def qCQ(e et dt:TypeId)(w:World)(v:Value)(l:List Dc):Prop:=TSl dt 17 (fun w d cs=>qF4 e et w cs d) w v l
theorem qCQ.kp{e et dt:TypeId}{X:List TypeId}{w w':World}{v:Value}{l:List Dc}(h:qCQ e et dt w v l)(hk:KpX X w w')(h1:e∉X)(h2:et∉X)(h3:76∉X)(h4:dt∉X):qCQ e et dt w' v l:=
 TSl.kp h hk h4 (fun _ _ h=>h.kp hk h1 h2 h3)
abbrev DsPar:=qCQ 68 58 61
theorem qDG.of_own{e:TypeId}{w:World}{base:Nat}{v:Value}{l:List Tok}(h:w.ownsRow base e 4 v l.length (qBQ l)):qDG e w v l:=by
 refine TSl.of_own (css:=l.map qBn) (base:=base) (n:=l.length) (by rw[<-List.flatMap_def];exact h) rfl (fun cs hc=>by obtain⟨x,_,rfl⟩:=List.mem_map.1 hc;rfl) (by simp) ?_;intro j h1 h2;simp
def qIU(s:ByteArray)(w:World)(e:Ending)(w':World):Prop:=
 Below w.heap.size w w'/\((∃ds v,qAt s.data.toList=.ok ds/\ds.length<=s.size/\e=.returned (.tuple #[v,.int .i64 0,.int .i64 0])/\DsPar w' v ds)\/
  (∃k er,qAt s.data.toList=.error (k,er)/\e=.returned (.tuple #[.slice none 0 0,.int .i64 (k:Nat),.int .i64 er])/\(er=2\/er=4)))
theorem qCL{P:Program}{fn:Func}{t t':Array Value}{R:Ending->World->Prop}(hr:results fn t'=results fn t):∀(ds:List Deferred) (m:FrameMode) (w:World),Leaves P fn t' R ds m w->Leaves P fn t R ds m w
 |[],m,w,h=>by
  cases m with
  |returning=>unfold Leaves at h ⊢;rw[hr]at h;exact h
  |panicking c=>unfold Leaves at h ⊢;exact h
  |run=>unfold Leaves at h;exact h.elim
 |d::ds,m,w,h=>by
  unfold Leaves at h ⊢;obtain⟨h1,fv,cap,f,args,h2,h3,h4⟩:=h;refine⟨h1,fv,cap,f,args,h2,h3,h4.mono ?_⟩;intro e u' w' he;cases e with
  |returned _=>exact qCL hr ds _ _ he
  |panicked _=>exact qCL hr ds _ _ he
  |outgrown=>exact he
theorem qBA{R:Ending->World->Prop}(i:Nat)(hi:5<=i)(v:Value)(c:List PanicEntry)(a:Act)(w:World)(h:bodyPostD Tryd.prog Tryd.f18 R (.panic c) (a.put (some i) v) w):bodyPostD Tryd.prog Tryd.f18 R (.panic c) a w:=by
 have hr:results Tryd.f18 (a.put (some i) v).tmps=results Tryd.f18 a.tmps:=by
  have g:∀j,j<5->(a.put (some i) v).tmps[j]?.getD undef=a.tmps[j]?.getD undef:=by
   intro j hj
   show(a.tmps.setIfInBounds i v)[j]?.getD undef=_
   rw[Array.getElem?_setIfInBounds,if_neg (by omega)]
  unfold results;simp only[Tryd.results18];simp[g 2 (by omega),g 3 (by omega),g 4 (by omega)]
 exact qCL hr _ _ _ h
def DsV(w:World)(css:List (List Value))(l:List Dc):Prop:=css.length=l.length/\∀j (h:j<l.length) (h':j<css.length),DPar w css[j] l[j]
theorem DsV.nil(w:World):DsV w [] []:=⟨rfl,fun j h=>by simp at h⟩
theorem DsV.kp{X:List TypeId}{w w':World}{css:List (List Value)}{l:List Dc}(h:DsV w css l)(hk:KpX X w w')(h1:68∉X)(h2:58∉X)(h3:76∉X):DsV w' css l:=⟨h.1,fun j a b=>(h.2 j a b).kp hk h1 h2 h3⟩
theorem DsV.snoc{w:World}{css:List (List Value)}{l:List Dc}{cs:List Value}{d:Dc}(h:DsV w css l)(hd:DPar w cs d):DsV w (css++[cs]) (l++[d]):=by
 refine⟨by simp[h.1],fun j h1 h2=> ?_⟩;by_cases hj:j<l.length
 ·rw[List.getElem_append_left hj,List.getElem_append_left (by rw[h.1];exact hj)]
  exact h.2 j hj (by rw[h.1];exact hj)
 ·have h3:j=l.length:=by simp at h1;omega
  subst h3;have h4:=h.1;rw[List.getElem_append_right (Nat.le_refl _),List.getElem_append_right (by omega)];simpa using hd
theorem DsV.ds{w:World}{base:Nat}{v:Value}{css:List (List Value)}{l:List Dc}(h:DsV w css l)(ho:w.ownsRow base 61 17 v l.length css.flatten):DsPar w v l:=by
 refine TSl.of_own (css:=css) (base:=base) (n:=l.length) ho rfl (fun cs hc=> ?_) h.1 (fun j a b=>h.2 j a b);obtain⟨j,hj,rfl⟩:=List.mem_iff_getElem.1 hc;obtain⟨y,hy,-⟩:=h.2 j (by rw[<-h.1];exact hj) hj;rw[hy];rfl
theorem qKQ:qDT Tryd.prog 39 61 17 208:=qDT.mk (z:=.agg #[.int .i64 0,.string ⟨#[]⟩,.int .i64 0,.bool false,.bool false,.bool false,.int .i64 0,.int .i64 0,.int .i64 0,.int .i64 0,.int .i64 0,.int .i64 0,.slice none 0 0,.slice none 0 0,.slice none 0 0,.slice none 0 0,.slice none 0 0]) Tryd.underlying39 (by kernel_rfl) rfl (by decide)
def qIW(acc:List Dc)(x:Except (List Tok) (List Dc)):Except (List Tok) (List Dc):=match x with|.ok y=> .ok (acc++y)|.error z=> .error z
theorem qJe(x:Except (List Tok) (List Dc)):qIW [] x=x:=by cases x<;>rfl
theorem qJf(a b:List Dc)(x:Except (List Tok) (List Dc)):qIW a (qIW b x)=qIW (a++b) x:=by cases x<;>simp[qIW]
theorem qKd(f:Nat)(t:Tok)(r:List Tok):qEo (f+1) (t::r)=match qBl (t::r)with|.error z=> .error z|.ok (d,l)=>qIW [d] (qEo f l):=by
 rw[qEo];cases qBl (t::r)with
 |error z=>rfl
 |ok y=>
  obtain⟨d,l⟩:=y;simp only[];cases qEo f l<;>rfl
theorem qIh{k:Nat}{d d':Dc}{l l':List Tok}(h:qA7 k d l=.ok (d',l')):l'.length<=l.length:=by
 have opts:∀(known:List Fg) (f:Nat) (seen:List Fg) (d:Dc) (l:List Tok) (d':Dc) (l':List Tok),qAX known f seen d l=.ok (d',l')->l'.length<=l.length:=by
  intro known f
  induction f with
  |zero=>intro seen d l d' l' h;cases h
  |succ f ih=>
   intro seen d l d' l' h;cases l with
   |nil=>cases h;simp
   |cons t r=>
    rw[qAX]at h
    split at h
    ·split at h
     ·cases h
     ·split at h
      ·cases h
      ·next x _ _=>
       cases h1:pFg x d r with
       |error z=>rw[h1]at h;cases h
       |ok y=>
        obtain⟨d1,l1⟩:=y;rw[h1]at h;have e1:=qIe h1;have e2:=ih _ _ _ _ _ h;simp;omega
    ·cases h;simp
 have rows:∀(f:Nat) (l:List Tok) (x:List (List Pr)) (r:List Tok),qBk f l=.ok (x,r)->r.length<=l.length:=by
  intro f
  induction f with
  |zero=>intro l x r h;cases h
  |succ f ih=>
   intro l x r h;rw[qCu]at h;cases h1:qDz l with
   |error z=>rw[h1]at h;cases h
   |ok y=>
    obtain⟨a,l1⟩:=y;rw[h1]at h;have e1:=qC0 h1;simp only[]at h
    split at h
    ·cases h2:qBk f (l1.drop 1)with
     |error z=>rw[h2]at h;cases h
     |ok y=>
      rw[h2]at h;have e2:=ih _ y.1 y.2 h2;cases h;simp at e2;omega
    ·cases h;omega
 have brs:∀(n:Nat) (l:List Tok) (x:List (Int×Int)) (r:List Tok),l.length<=n->qDK l=.ok (x,r)->r.length<=l.length:=by
  intro n
  induction n with
  |zero=>
   intro l x r hl h;obtain rfl:l=[]:=List.eq_nil_of_length_eq_zero (by omega);cases h
  |succ n ih=>
   intro l x r hl h;rw[qIg]at h;cases h1:qBg l with
   |error z=>rw[h1]at h;cases h
   |ok y=>
    obtain⟨a,l1⟩:=y;rw[h1]at h;have e1:=qBu h1;simp only[]at h;cases h2:qAR 2 [58] l1 with
    |error z=>rw[h2]at h;cases h
    |ok y=>
     obtain⟨a2,l2⟩:=y;rw[h2]at h;have e2:=qAu h2;simp only[]at h;cases h3:qBg l2 with
     |error z=>rw[h3]at h;cases h
     |ok y=>
      obtain⟨a3,l3⟩:=y;rw[h3]at h;have e3:=qBu h3;simp only[]at h
      split at h
      ·cases h4:qDK (l3.drop 1)with
       |error z=>rw[h4]at h;cases h
       |ok y=>
        rw[h4]at h;have e4:=ih (l3.drop 1) y.1 y.2 (by simp;omega) h4;cases h;simp at e4;omega
      ·cases h;omega
 unfold qA7 at h
 split at h
 ·exact opts _ _ _ _ _ _ _ h
 ·split at h
  ·exact opts _ _ _ _ _ _ _ h
  ·split at h
   ·cases h1:qBk (l.length+1) l with
    |error z=>rw[h1]at h;cases h
    |ok y=>
     rw[h1]at h;have:=rows _ _ y.1 y.2 h1;cases h;exact this
   ·cases h1:qDK l with
    |error z=>rw[h1]at h;cases h
    |ok y=>
     rw[h1]at h;have:=brs l.length l y.1 y.2 (Nat.le_refl _) h1;cases h;exact this
theorem qIf{d:Dc}{l r:List Tok}(h:qBl l=.ok (d,r)):r.length<l.length:=by
 unfold qBl at h;cases hk:qBP l with
 |none=>rw[hk]at h;cases h
 |some k=>
  rw[hk]at h;obtain⟨-,t0,ht0⟩:=qFG hk;have e0:=qAu ht0;simp only[]at h;cases h1:qAR 0 [] (l.drop 1)with
  |error z=>rw[h1]at h;cases h
  |ok y=>
   obtain⟨t,l2⟩:=y;rw[h1]at h;have e1:=qAu h1;simp only[]at h;cases h2:qA7 k (Dc.zero k t.text t.at_) l2 with
   |error z=>rw[h2]at h;cases h
   |ok y=>
    obtain⟨d2,l3⟩:=y;rw[h2]at h;have e2:=qIh h2;simp only[]at h;cases h3:qAR 2 [59] l3 with
    |error z=>rw[h3]at h;cases h
    |ok y=>
     obtain⟨t4,l4⟩:=y;rw[h3]at h;have e3:=qAu h3;cases h;omega
structure Bx3(w:World)(B:Nat)(v:Value)(x y:Int):Prop where
 p:One w B 39 v
 q:One w (B+1) 3 (.int .i64 x)
 r:One w (B+1+1) 36 (.int .i64 y)
theorem Bx3.setp{w:World}{B:Nat}{v:Value}{x y:Int}(h:Bx3 w B v x y)(u:Value):Bx3 (w.setCell ⟨B,0,none⟩ u) B u x y:=⟨h.p.set _,h.q.far (by simp) _,h.r.far (by simp;omega) _⟩
theorem Bx3.setq{w:World}{B:Nat}{v:Value}{x y:Int}(h:Bx3 w B v x y)(u:Int):Bx3 (w.setCell ⟨B+1,0,none⟩ (.int .i64 u)) B v u y:=⟨h.p.far (by simp) _,h.q.set _,h.r.far (by simp) _⟩
theorem Bx3.setr{w:World}{B:Nat}{v:Value}{x y:Int}(h:Bx3 w B v x y)(u:Int):Bx3 (w.setCell ⟨B+1+1,0,none⟩ (.int .i64 u)) B v x u:=⟨h.p.far (by simp;omega) _,h.q.far (by simp) _,h.r.set _⟩
theorem Bx3.below{w w':World}{B C:Nat}{v:Value}{x y:Int}(h:Bx3 w B v x y)(hb:Below C w w')(hC:B+3<=C):Bx3 w' B v x y:=⟨h.p.below hb (by omega),h.q.below hb (by omega),h.r.below hb (by omega)⟩
theorem Bx3.only{S:Nat->Prop}{w w':World}{B:Nat}{v:Value}{x y:Int}(h:Bx3 w B v x y)(ho:qAg S w w')(hS:∀b,S b->B+3<=b):Bx3 w' B v x y:=
 ⟨ho.one h.p (fun e=>by have:=hS _ e;omega),ho.one h.q (fun e=>by have:=hS _ e;omega),ho.one h.r (fun e=>by have:=hS _ e;omega)⟩
theorem Bx3.kp{w w':World}{B:Nat}{v:Value}{x y:Int}(h:Bx3 w B v x y)(ho:qAg (fun j=>j=B\/j=B+1\/j=B+1+1) w w'):KpX [39,3,36] w w':=KpX.of_only ho (fun j hj e cs hh=>by
 rcases hj with rfl|rfl|rfl
 ·rw[h.p]at hh;injection hh with hh;injection hh with _ hh;simp[hh]
 ·rw[h.q]at hh;injection hh with hh;injection hh with _ hh;simp[hh]
 ·rw[h.r]at hh;injection hh with hh;injection hh with _ hh;simp[hh])
theorem qB5{C:Nat}{w w':World}(h:Below C w w'){b:Nat}(hb:C<=b)(v:Value):Below C w (w'.setCell ⟨b,0,none⟩ v):=h.setCell (p:=⟨b,0,none⟩) hb v
theorem qFl{e et:TypeId}{w:World}{d:Dc}{y:Ls}(h:qJQ e et w d y):∀u∈dcC d y,u.oneCell'=true:=by
 obtain⟨a1,c1,h1,-⟩:=TSl.form h.t;obtain⟨a2,c2,h2,-⟩:=TSl.form h.g;obtain⟨a3,c3,h3,-⟩:=TSl.form h.b;obtain⟨a4,c4,h4,-⟩:=TSl.form h.r;obtain⟨a5,c5,h5,-⟩:=TSl.form h.x;intro u hu;simp[dcC,h1,h2,h3,h4,h5]at hu;rcases hu with rfl|rfl|rfl|rfl|rfl|rfl|rfl|rfl|rfl|rfl|rfl|rfl|rfl|rfl|rfl|rfl|rfl<;>rfl
theorem qCZ(s:ByteArray)(w:World)(hs:s.size<=100000)(hK:qA2 w):
 Calls Tryd.prog 18 #[.string s] w (qIU s w):=by
 have hmf:∀(fn:Fn) (first cap:Array Value) (w:World),(Instr.makeFunc fn first cap).run Tryd.prog w=.ok (.func fn first cap) w:=fun _ _ _ _=>rfl;obtain⟨w3,hw3⟩:=eX (((w.alloc (.cells #[.slice none 0 0] 39)).alloc (.cells #[.int .i64 0] 3)).alloc (.cells #[.int .i64 0] 36));have hB3:Below w.heap.size w w3:=by rw[<-hw3];exact((qC9 _ _ _).alloc (by simp;omega) _)
 have hK3:qA2 w3:=hK.below hB3 hK.lt;have HC:=hZ (qEA s w3 (by omega) hK3);have o1:One w3 w.heap.size 39 (.slice none 0 0):=by rw[<-hw3];exact((One.new w _ _).alloc _).alloc _
 have o2:One w3 (w.heap.size+1) 3 (.int .i64 0):=by
  rw[<-hw3];have:=(One.new (w.alloc (.cells #[.slice none 0 0] 39)) 3 (.int .i64 0)).alloc (.cells #[.int .i64 0] 36);rw[World.size_alloc]at this;exact this
 have o3:One w3 (w.heap.size+1+1) 36 (.int .i64 0):=by
  rw[<-hw3];have:=One.new ((w.alloc (.cells #[.slice none 0 0] 39)).alloc (.cells #[.int .i64 0] 3)) 36 (.int .i64 0);rw[World.size_alloc,World.size_alloc]at this;exact this
 obtain⟨B,hBe⟩:=eX w.heap.size;rw[hBe]at o1 o2 o3 hB3;have hz3:w3.heap.size=B+3:=by rw[<-hw3];simp[hBe]
 have HB3:=hZ hB3;have HBe:=hZ hBe;clear hK hK3
 go_enter_defers Tryd.func18,Tryd.ntmps18
 go_wp2_with fail
 clear hw3 hBe;refine HC.o.mono ?_;rintro e w4 ⟨hB4,⟨ts,v,hx,hlen,rfl,hown⟩|⟨k,er,hx,rfl,her⟩⟩;rotate_left
 ·have X4:Bx3 w4 B (.slice none 0 0) 0 0:=Bx3.below ⟨o1,o2,o3⟩ hB4 (by omega)
  have HB4:=hZ (HB3.o.trans (hB4.mono (by omega)));have HE:Hid (qAt s.data.toList=.error (k,er)):=hZ (by
   unfold qAt;unfold lxs at hx;have h9:s.data.toList.length=s.size:=by simp
   rw[h9,hx])
  have hne:¬er=0:=by omega
  have Her:=hZ her;obtain⟨w5,hw5⟩:=eX ((w4.setCell ⟨B+1,0,none⟩ (.int .i64 (k:Nat))).setCell ⟨B+1+1,0,none⟩ (.int .i64 er));have X5:Bx3 w5 B (.slice none 0 0) k er:=by rw[<-hw5];exact(X4.setq _).setr _
  have HB5:Hid (Below B w w5):=hZ (by rw[<-hw5];exact qB5 (qB5 HB4.o (by omega) _) (by omega) _);have a2:=X4.q.cell;have a3:=X4.r.cell;have b2:=X4.q.frozen;have b3:=X4.r.frozen;have c2:=X5.q.cell;have c3:=X5.r.cell;clear hx hB4 her HC o1 o2 o3 hz3 X4
  go_wp2_with fail
  clear hw5 a2 a3 b2 b3 c2 c3;obtain⟨w6,hw6⟩:=eX w5.drew;have X6:Bx3 w6 B (.slice none 0 0) k er:=by rw[<-hw6];exact⟨X5.p.drew,X5.q.drew,X5.r.drew⟩
  have HB6:Hid (Below B w w6):=hZ (by rw[<-hw6];exact HB5.o.drew);refine qAs [] (fun W=>W.cell? ⟨B+1,0,none⟩=some (.int .i64 (k:Nat))/\W.cell? ⟨B+1+1,0,none⟩=some (.int .i64 er)) (by kernel_rfl) (by rw[hw6];exact⟨X6.q.cell,X6.r.cell⟩) (fun hHeld=> ?_);rw[hw6]at hHeld ⊢;clear hw6 X5 HB5;refine qAb 0 17 (v:= ?_) rfl rfl (by kernel_rfl) (by kernel_rfl) (by kernel_rfl) (by kernel_rfl) (by kernel_rfl) (fun c a w h=>qBA 17 (by omega) _ c a w h) (by rfl) ?_ (by assumption) ?_;rotate_left
  ·(intro w hSw;go_simp;first|done|with_reducible rfl)
  simp only[sX1,sX2,sX3];refine qAb 1 18 (v:= ?_) rfl rfl (by kernel_rfl) (by kernel_rfl) (by kernel_rfl) (by kernel_rfl) (by kernel_rfl) (fun c a w h=>qBA 18 (by omega) _ c a w h) (by rfl) ?_ (by assumption) ?_;rotate_left
  ·(intro w hSw;go_simp;first|done|with_reducible rfl)
  simp only[sX1,sX2,sX3];obtain⟨w7,hw7⟩:=eX (w6.setCell ⟨B,0,none⟩ (.slice none 0 0));have X7:Bx3 w7 B (.slice none 0 0) k er:=by rw[<-hw7];exact X6.setp _
  have HB7:Hid (Below B w w7):=hZ (by rw[<-hw7];exact qB5 HB6.o (by omega) _);have a1:=X6.p.cell;have b1:=X6.p.frozen;refine eU 2 fun K hK=> ?_;go_simp;refine hK.out _ _ ⟨X7.q.cell,X7.r.cell⟩ (fun hHeld=> ?_);clear hK K hw7 a1 b1 X6 HB6
  try simp only[Act.put,sX1,sX2,sX3]
  obtain⟨w8,hw8⟩:=eX (w7.setCell ⟨B+1,0,none⟩ (.int .i64 (k:Nat)));have X8:Bx3 w8 B (.slice none 0 0) k er:=by rw[<-hw8];exact X7.setq _
  have HB8:Hid (Below B w w8):=hZ (by rw[<-hw8];exact qB5 HB7.o (by omega) _);have a1:=X7.q.cell;have b1:=X7.q.frozen;refine eU 3 fun K hK=> ?_;go_simp;refine hK.out _ _ ⟨X8.q.cell,X8.r.cell⟩ (fun hHeld=> ?_);clear hK K hw8 a1 b1 X7 HB7
  try simp only[Act.put,sX1,sX2,sX3]
  obtain⟨w9,hw9⟩:=eX (w8.setCell ⟨B+1+1,0,none⟩ (.int .i64 er));have X9:Bx3 w9 B (.slice none 0 0) k er:=by rw[<-hw9];exact X8.setr _
  have HB9:Hid (Below B w w9):=hZ (by rw[<-hw9];exact qB5 HB8.o (by omega) _);have a1:=X8.r.cell;have b1:=X8.r.frozen;refine eU 4 fun K hK=> ?_;go_simp;refine hK.out _ _ ⟨X9.q.cell,X9.r.cell⟩ (fun hHeld=> ?_);clear hK K hw9 a1 b1 X8 HB8
  try simp only[Act.put,sX1,sX2,sX3]
  refine dU ?_;clear hHeld
  go_wp2_with fail
  have e1:=X9.p.cell;have e2:=X9.q.cell;have e3:=X9.r.cell;simp[bodyPostD,Leaves,settle,results,Tryd.results18,go_sem,e1,e2,e3];exact⟨HB9.o.mono (by have:=HBe.o;omega),.inr ⟨k,er,HE.o,rfl,Her.o⟩⟩
 have HT:Hid (qAt s.data.toList=qDy s.size ts):=hZ (by
  unfold qAt;unfold lxs at hx;have h9:s.data.toList.length=s.size:=by simp
  rw[h9,hx])
 have X4:Bx3 w4 B (.slice none 0 0) 0 0:=Bx3.below ⟨o1,o2,o3⟩ hB4 (by omega);have HB4:=hZ (HB3.o.trans (hB4.mono (by omega)));have htk:=qDG.of_own hown;have hl:ts.length<=s.size:=hlen;obtain⟨a,cap,rfl,hc1,hc2⟩:=TSl.form htk;obtain⟨w5,hw5⟩:=eX ((w4.setCell ⟨B+1,0,none⟩ (.int .i64 0)).setCell ⟨B+1+1,0,none⟩ (.int .i64 0));have X5:Bx3 w5 B (.slice none 0 0) 0 0:=by rw[<-hw5];exact(X4.setq _).setr _
 have hO5:qAg (fun j=>j=B+1\/j=B+1+1) w4 w5:=by rw[<-hw5];exact((qAg.refl (fun j=>j=B+1\/j=B+1+1) w4).set (p:=⟨B+1,0,none⟩) (.inl rfl) _).set (p:=⟨B+1+1,0,none⟩) (.inr rfl) _
 have hX5:KpX [3,36] w4 w5:=KpX.of_only hO5 (fun j hj e cs hh=>by
  rcases hj with rfl|rfl
  ·rw[X4.q]at hh;injection hh with hh;injection hh with _ hh;simp[hh]
  ·rw[X4.r]at hh;injection hh with hh;injection hh with _ hh;simp[hh])
 have hB5:Below B w w5:=by rw[<-hw5];exact qB5 (qB5 HB4.o (by omega) _) (by omega) _
 have a2:=X4.q.cell;have a3:=X4.r.cell;have b2:=X4.q.frozen;have b3:=X4.r.frozen;have c3:=X5.r.cell
 --the reader
 obtain⟨w6,hw6⟩:=eX (w5.alloc (.cells #[.slice a ts.length cap,.int .i64 (s.size:Int),.int .i64 0,.string ⟨#[]⟩,.int .i64 0,.bool false,.bool false,.bool false,.int .i64 0,.int .i64 0,.int .i64 0,.int .i64 0,.int .i64 0,.int .i64 0,.slice none 0 0,.slice none 0 0,.slice none 0 0,.slice none 0 0,.slice none 0 0] 96));have hb6:RdB w6 w5.heap.size (.slice a ts.length cap) s.size (dcC (Dc.zero 0 [] 0) ls0):=by rw[<-hw6];exact heap_alloc_new w5 _
 have hB6:Below w5.heap.size w5 w6:=by rw[<-hw6];exact qAa _ _
 have hz5:B+3<=w5.heap.size:=by have:=hO5.size;have:=hB4.size;omega
 obtain⟨b,hbe⟩:=eX w5.heap.size;have HR6:Hid (Rdr w6 b s.size ts (dcC (Dc.zero 0 [] 0) ls0)):=hZ ⟨_,hbe▸hb6,(htk.kp hX5 (by decide)).below hB6⟩;have X6:Bx3 w6 B (.slice none 0 0) 0 0:=X5.below hB6 hz5;have HB6:Hid (Below B w w6):=hZ (hB5.trans (hB6.mono (by omega)));have hz6:w6.heap.size=b+1:=by rw[<-hw6];simp[hbe]
 --the maps
 have hmk:=fun w=>run_makeMap_plain (P:=Tryd.prog) w 97;obtain⟨m0,hm0⟩:=eX (w6.alloc (.map #[] 0));have s0:qB6 m0 (b+1) []:=by rw[<-hm0,<-hz6];exact qB6.made w6
 have hBm0:Below w6.heap.size w6 m0:=by rw[<-hm0];exact qAa _ _
 have hzm0:m0.heap.size=b+2:=by rw[<-hm0];simp[hz6]
 obtain⟨m1,em1,sm1,om1,zm1⟩:=qAW (P:=Tryd.prog) s0 Tryd.underlying97 Tryd.underlying9 [111,98,106,101,99,116] (.func (.func 36) #[.pointer (some ⟨b,0,none⟩)] #[]) rfl;obtain⟨m2,em2,sm2,om2,zm2⟩:=qAW (P:=Tryd.prog) sm1 Tryd.underlying97 Tryd.underlying9 [109,105,120,101,100] (.func (.func 37) #[.pointer (some ⟨b,0,none⟩)] #[]) rfl;obtain⟨m3,em3,sm3,om3,zm3⟩:=qAW (P:=Tryd.prog) sm2 Tryd.underlying97 Tryd.underlying9 [99,111,105,110] (.func (.func 38) #[.pointer (some ⟨b,0,none⟩)] #[]) rfl;obtain⟨m4,em4,sm4,om4,zm4⟩:=qAW (P:=Tryd.prog) sm3 Tryd.underlying97 Tryd.underlying9 [119,101,97,114] (.func (.func 39) #[.pointer (some ⟨b,0,none⟩)] #[]) rfl;obtain⟨m5,em5,sm5,om5,zm5⟩:=qAW (P:=Tryd.prog) sm4 Tryd.underlying97 Tryd.underlying9 [98,105,110,100] (.func (.func 40) #[.pointer (some ⟨b,0,none⟩)] #[]) rfl;obtain⟨m6,em6,sm6,om6,zm6⟩:=qAW (P:=Tryd.prog) sm5 Tryd.underlying97 Tryd.underlying9 [108,101,118,101,108] (.func (.func 41) #[.pointer (some ⟨b,0,none⟩)] #[]) rfl;have oM:qAg (fun c=>c=b+1) m0 m6:=((((om1.trans om2).trans om3).trans om4).trans om5).trans om6;have hzm6:m6.heap.size=b+2:=by omega
 obtain⟨n0,hn0⟩:=eX (m6.alloc (.map #[] 0));have t0:qB6 n0 (b+2) []:=by rw[<-hn0,<-hzm6];exact qB6.made m6
 have hBn0:Below m6.heap.size m6 n0:=by rw[<-hn0];exact qAa _ _
 have hzn0:n0.heap.size=b+3:=by rw[<-hn0];simp[hzm6]
 obtain⟨n1,en1,sn1,on1,zn1⟩:=qAW (P:=Tryd.prog) t0 Tryd.underlying97 Tryd.underlying9 [108,101,118,101,108] (.func (.func 41) #[.pointer (some ⟨b,0,none⟩)] #[]) rfl;obtain⟨n2,en2,sn2,on2,zn2⟩:=qAW (P:=Tryd.prog) sn1 Tryd.underlying97 Tryd.underlying9 [116,105,109,101] (.func (.func 42) #[.pointer (some ⟨b,0,none⟩)] #[]) rfl;obtain⟨n3,en3,sn3,on3,zn3⟩:=qAW (P:=Tryd.prog) sn2 Tryd.underlying97 Tryd.underlying9 [99,104,97,110,99,101] (.func (.func 43) #[.pointer (some ⟨b,0,none⟩)] #[]) rfl;obtain⟨n4,en4,sn4,on4,zn4⟩:=qAW (P:=Tryd.prog) sn3 Tryd.underlying97 Tryd.underlying9 [116,97,107,101] (.func (.func 44) #[.pointer (some ⟨b,0,none⟩)] #[]) rfl;obtain⟨n5,en5,sn5,on5,zn5⟩:=qAW (P:=Tryd.prog) sn4 Tryd.underlying97 Tryd.underlying9 [103,105,118,101] (.func (.func 45) #[.pointer (some ⟨b,0,none⟩)] #[]) rfl;obtain⟨n6,en6,sn6,on6,zn6⟩:=qAW (P:=Tryd.prog) sn5 Tryd.underlying97 Tryd.underlying9 [98,97,99,107] (.func (.func 46) #[.pointer (some ⟨b,0,none⟩)] #[]) rfl;have oN:qAg (fun c=>c=b+2) n0 n6:=((((on1.trans on2).trans on3).trans on4).trans on5).trans on6;have hzn6:n6.heap.size=b+3:=by omega
 have HMf:Hid (qB6 n6 (b+1) (qCj fgN b qCb)):=hZ ((sm6.below hBn0).only oN (by omega));have HMp:Hid (qB6 n6 (b+2) (qCj fgN b qBI)):=hZ sn6;have OA:qAg (fun c=>c=b+1\/c=b+2) w6 n6:=(((qAg.of_below hBm0).trans (oM.mono (fun _ h=> .inl h))).trans (qAg.of_below hBn0)).trans (oN.mono (fun _ h=> .inr h));have hBn:Below w6.heap.size w6 n6:=⟨OA.os,OA.tape,OA.output,OA.size,fun k hk=>OA.block k hk (by omega)⟩;have HRn:=hZ (HR6.o.below hBn);have Xn:=X6.below hBn (by omega);have HBn:=hZ (HB6.o.trans (hBn.mono (by omega)));clear hx hown hB4 HC o1 o2 o3 hz3 X4 HB4 htk hlen hO5 hX5 hB5 hb6 hB6 X5 X6 HB6 HR6 s0 hBm0 t0 hBn0 oM oN OA hBn sm1 sm2 sm3 sm4 sm5 sm6 sn1 sn2 sn3 sn4 sn5 sn6 om1 om2 om3 om4 om5 om6 on1 on2 on3 on4 on5 on6;have hsz:s.size<=100000:=hs;have HTK:Hid (ts.length<=s.size):=hZ hl;have Hz5:Hid (B+3<=b):=hZ (by omega)
 go_wp2_with fail
 clear hmk em1 em2 em3 em4 em5 em6 en1 en2 en3 en4 en5 en6 hm0 hn0 hw5 hw6 a2 a3 b2 b3 c3 zm1 zm2 zm3 zm4 zm5 zm6 zn1 zn2 zn3 zn4 zn5 zn6 hzm0 hzm6 hzn0 hbe hz6 hl hc1 hc2 hmf
 go_loopw [] (fun wr=>∃(ds:List Dc) (css:List (List Value)) (v:Value) (f1:Nat) (l1:List Tok) (cs:List Value) (d1:Dc),Hid (qEo (ts.length+1) ts=qIW ds (qEo (f1+1) l1))/\Hid (l1.length<=f1/\ds.length+l1.length<=s.size)/\Hid (Rdr wr b s.size l1 cs)/\Hid (DPar wr cs d1)/\
  Hid (qB6 wr (b+1) (qCj fgN b qCb))/\Hid (qB6 wr (b+2) (qCj fgN b qBI))/\Hid (Bx3 wr B v 0 0)/\Hid (wr.ownsRow (b+3) 61 17 v ds.length css.flatten)/\Hid (DsV wr css ds)/\Hid (Below B w wr)/\Hid (b+3<=wr.heap.size)) (fun wr=>qGp wr b)
 case atStart=>
  exact⟨[],[],_,ts.length,ts,_,Dc.zero 0 [] 0,hZ (qJe _).symm,hZ ⟨Nat.le_refl _,by have:=HTK.o;simp;exact this⟩,HRn,hZ ⟨ls0,rfl,TSl.nil _ _ (by omega),TSl.nil _ _ (by omega),TSl.nil _ _ (by omega),TSl.nil _ _ (by omega),TSl.nil _ _ (by omega)⟩,
   HMf,HMp,hZ Xn,hZ (World.ownsRow_nil _ _ _ _),hZ (DsV.nil _),HBn,hZ (by omega)⟩
 case round=>
  obtain⟨ds,css,v,f1,l1,cs,d1,HE,HL,HR,HD,HM1,HM2,HX,HO,HV,HB,HZ⟩:=hrel;clear HRn HMf HMp Xn HBn;obtain⟨v1,hb1,ht1⟩:=HR.o;have c0:wr.cell? ⟨b,0,none⟩=some v1:=hb1.cell 0;obtain⟨a1,cp1,rfl, -,-⟩:=TSl.form ht1;cases l1 with
  |nil=>
   have hds:=HV.o.ds HO.o;obtain⟨av,cv,rfl, -,-⟩:=TSl.form hds;have HQ:Hid (qAt s.data.toList=.ok ds):=hZ (by rw[HT.o];unfold qDy;rw[HE.o];simp[qEo,qIW]);obtain⟨w9,hw9⟩:=eX (((wr.setCell ⟨B,0,none⟩ (.slice av ds.length cv)).setCell ⟨B+1,0,none⟩ (.int .i64 0)).setCell ⟨B+1+1,0,none⟩ (.int .i64 0));have X9:Bx3 w9 B (.slice av ds.length cv) 0 0:=by rw[<-hw9];exact((HX.o.setp _).setq _).setr _
   have hO9:qAg (fun j=>j=B\/j=B+1\/j=B+1+1) wr w9:=by rw[<-hw9];exact(((qAg.refl (fun j=>j=B\/j=B+1\/j=B+1+1) wr).set (p:=⟨B,0,none⟩) (.inl rfl) _).set (p:=⟨B+1,0,none⟩) (.inr (.inl rfl)) _).set (p:=⟨B+1+1,0,none⟩) (.inr (.inr rfl)) _
   have hX9:=HX.o.kp hO9;have HD9:=hZ (hds.kp hX9 (by decide) (by decide) (by decide) (by decide));have HB9:Hid (Below B w w9):=hZ (hO9.below HB.o (by have:=HZ.o;have:=Hz5.o;omega) (fun k hk=>by omega));have p1:=HX.o.p.cell;have p2:=HX.o.q.cell;have p3:=HX.o.r.cell;have q1:=HX.o.p.frozen;have q2:=HX.o.q.frozen;have q3:=HX.o.r.frozen;have hn12:¬B=B+1/\¬B=B+1+1:=by omega
   clear hb1 ht1 hds hO9 hX9 HE HR HD HM1 HM2 HX HO HV HB
   go_wp2_with fail
   refine leaves_cons (f:=35) (args:=#[.pointer (some ⟨B,0,none⟩),.pointer (some ⟨B+1,0,none⟩),.pointer (some ⟨B+1+1,0,none⟩)]) (by simp) (by simp[go_sem]) ?_;refine(qJL _ _ _ _).mono ?_;rintro e u' w10 ⟨rfl,rfl,hB10⟩;have X10:=X9.below hB10 (by have:=X9.r.lt;omega);have e1:=X10.p.cell;have e2:=X10.q.cell;have e3:=X10.r.cell;have HD10:=HD9.o.kp (KpX.of_below (X:=[]) hB10) (by simp) (by simp) (by simp) (by simp);have HB10:=HB9.o.trans (hB10.mono (by have:=X9.r.lt;omega));simp[Leaves,settle,results,Tryd.results18,go_sem,e1,e2,e3];exact⟨HB10.mono (by have:=HBe.o;omega),.inl ⟨ds,_,HQ.o,by have:=HL.o;omega,rfl,HD10⟩⟩
  |cons t l1=>
   have hn1:(0:Int)<(l1.length:Int)+1:=by omega
   have hl1:(t::l1).length<=100000:=by have:=HL.o;simp at this ⊢;omega
   have HC:=hZ (qEm b s.size (b+1) (b+2) cs d1 (t::l1) wr HR.o HD.o hl1 HM1.o HM2.o (by omega) (by omega));have HE2:=hZ (qKd f1 t l1);clear hb1 ht1 hl1
   go_wp2_with fail
   clear c0 hn1;refine HC.o.mono ?_;rintro e w2 (⟨d2,l2,cs2,h1,rfl,hd2,hr2⟩|⟨z,h1,rfl,hr2⟩);rotate_left
   ·have HQ:Hid (qAt s.data.toList=.error (qKX s.size z,2)):=hZ (by rw[HT.o];unfold qDy;rw[HE.o,HE2.o,h1];rfl)
    have X2:=HX.o.only hr2 (fun j hj=>by have:=Hz5.o;omega);have HB2:Hid (Below B w w2):=hZ (hr2.below HB.o (by have:=HZ.o;have:=Hz5.o;omega) (fun k hk=>by have:=Hz5.o;omega));clear h1 hr2 HC HR HD HM1 HM2 HX HO HV HB
    go_wp2_with fail
    refine leaves_cons (f:=35) (args:=#[.pointer (some ⟨B,0,none⟩),.pointer (some ⟨B+1,0,none⟩),.pointer (some ⟨B+1+1,0,none⟩)]) (by simp) (by simp[go_sem]) ?_;refine(qIN B (B+1) (B+1+1) _ _ _ _ _ _ (qKX s.size z) [] _ X2.p X2.q X2.r (by omega) (by omega) (by omega)).mono ?_;rintro e u' w10 ⟨rfl,rfl,y1,y2,y3,hO10⟩;have e1:=y1.cell;have e2:=y2.cell;have e3:=y3.cell;have HB10:Below B w w10:=hO10.below HB2.o (by have:=X2.r.lt;omega) (fun k hk=>by omega);simp[Leaves,settle,results,Tryd.results18,go_sem,e1,e2,e3];exact⟨HB10.mono (by have:=HBe.o;omega),.inr ⟨_,2,HQ.o,rfl,.inl rfl⟩⟩
   obtain⟨y2,rfl,hy2⟩:=hd2;have hds:=HV.o.ds HO.o;obtain⟨av,cv,rfl, -,-⟩:=TSl.form hds;obtain⟨wd,hwd⟩:=eX w2.drew;have hBd:Below w2.heap.size w2 wd:=by rw[<-hwd];exact(Below.refl _ _).drew
   have hk2:=HR.o.kpx hr2.2;have hOd:qAg (fun k=>k=b) wr wd:=hr2.2.trans (qAg.of_below hBd);have Xd:=HX.o.only hOd (fun j hj=>by have:=Hz5.o;omega);have HOd:=hZ (hOd.own HO.o (fun k hk he=>by have:=(HO.o.lt k hk).1;omega));have HVd:=hZ ((HV.o.kp (HR.o.kpx hOd) (by decide) (by decide) (by decide)).snoc (d:=d2) (cs:=dcC d2 y2) ⟨y2,rfl,hy2.kp (KpX.of_below (X:=[]) hBd) (by simp) (by simp) (by simp)⟩);have HM1d:=hZ (HM1.o.only hOd (by omega));have HM2d:=hZ (HM2.o.only hOd (by omega));have HRd:Hid (Rdr wd b s.size l2 (dcC d2 y2)):=hZ (Rdr.below hr2.1 hBd);have HLd:Hid (LPar wd d2 y2):=hZ (hy2.kp (KpX.of_below (X:=[]) hBd) (by simp) (by simp) (by simp));have HBd:Hid (Below B w wd):=hZ (hOd.below HB.o (by have:=HZ.o;have:=Hz5.o;omega) (fun k hk=>by have:=Hz5.o;omega));have HZd:Hid (b+3<=wd.heap.size):=hZ (Nat.le_trans HZ.o hOd.size);have Hl2:=hZ (qIf h1);have HQ:Hid (qEo (ts.length+1) ts=qIW ds (qIW [d2] (qEo f1 l2))):=hZ (by rw[HE.o,HE2.o,h1]);obtain⟨vd,hbd,htd⟩:=HRd.o;have hfd:=hbd.frozen;clear h1 hr2 hy2 hds hBd hk2 hOd HC HO HV HX HM1 HM2 HB HZ HD HE HE2
   go_wp2_with fail
   have SD:(fun W=>W.cell? ⟨B,0,none⟩=some (.slice av ds.length cv)/\W.cell? ⟨b,2,none⟩=some (.int .i64 d2.kind)/\W.cell? ⟨b,3,none⟩=some (.string ⟨d2.name.toArray⟩)/\W.cell? ⟨b,4,none⟩=some (.int .i64 d2.at_)/\W.cell? ⟨b,5,none⟩=some (.bool d2.object)/\W.cell? ⟨b,6,none⟩=some (.bool d2.mixed)/\W.cell? ⟨b,7,none⟩=some (.bool d2.coin)/\W.cell? ⟨b,8,none⟩=some (.int .i64 d2.wear)/\W.cell? ⟨b,9,none⟩=some (.int .i64 d2.bind)/\W.cell? ⟨b,10,none⟩=some (.int .i64 d2.level)/\W.cell? ⟨b,11,none⟩=some (.int .i64 d2.time)/\W.cell? ⟨b,12,none⟩=some (.int .i64 d2.chance)/\W.cell? ⟨b,13,none⟩=some (.int .i64 d2.of_)/\W.cell? ⟨b,14,none⟩=some (y2.t)/\W.cell? ⟨b,15,none⟩=some (y2.g)/\W.cell? ⟨b,16,none⟩=some (y2.b)/\W.cell? ⟨b,17,none⟩=some (y2.r)/\W.cell? ⟨b,18,none⟩=some (y2.x)) wd:=⟨Xd.p.cell,hbd.cell 2,hbd.cell 3,hbd.cell 4,hbd.cell 5,hbd.cell 6,hbd.cell 7,hbd.cell 8,hbd.cell 9,hbd.cell 10,hbd.cell 11,hbd.cell 12,hbd.cell 13,hbd.cell 14,hbd.cell 15,hbd.cell 16,hbd.cell 17,hbd.cell 18⟩;refine qAs [7] (fun W=>W.cell? ⟨B,0,none⟩=some (.slice av ds.length cv)/\W.cell? ⟨b,2,none⟩=some (.int .i64 d2.kind)/\W.cell? ⟨b,3,none⟩=some (.string ⟨d2.name.toArray⟩)/\W.cell? ⟨b,4,none⟩=some (.int .i64 d2.at_)/\W.cell? ⟨b,5,none⟩=some (.bool d2.object)/\W.cell? ⟨b,6,none⟩=some (.bool d2.mixed)/\W.cell? ⟨b,7,none⟩=some (.bool d2.coin)/\W.cell? ⟨b,8,none⟩=some (.int .i64 d2.wear)/\W.cell? ⟨b,9,none⟩=some (.int .i64 d2.bind)/\W.cell? ⟨b,10,none⟩=some (.int .i64 d2.level)/\W.cell? ⟨b,11,none⟩=some (.int .i64 d2.time)/\W.cell? ⟨b,12,none⟩=some (.int .i64 d2.chance)/\W.cell? ⟨b,13,none⟩=some (.int .i64 d2.of_)/\W.cell? ⟨b,14,none⟩=some (y2.t)/\W.cell? ⟨b,15,none⟩=some (y2.g)/\W.cell? ⟨b,16,none⟩=some (y2.b)/\W.cell? ⟨b,17,none⟩=some (y2.r)/\W.cell? ⟨b,18,none⟩=some (y2.x)) (by kernel_rfl) (by rw[hwd];exact SD) (fun hHeld=> ?_);rw[hwd]at hHeld ⊢;clear hwd;refine qAb 0 63 (v:= ?_) rfl rfl (by kernel_rfl) (by kernel_rfl) (by kernel_rfl) (by kernel_rfl) (by kernel_rfl) (fun c a w h=>qBA 63 (by omega) _ c a w h) (by rfl) ?_ (by assumption) ?_;rotate_left
   ·(intro w hSw;go_simp;first|done|with_reducible rfl)
   simp only[sX1,sX2,sX3];refine qJc 1 64 (v:= ?_) rfl rfl (by kernel_rfl) (by kernel_rfl) (by kernel_rfl) (fun c a w h=>qBA 64 (by omega) _ c a w h) (by rfl) ?_ ?_;rotate_left
   ·(intro w;go_simp;first|done|with_reducible rfl)
   simp only[sX1,sX2,sX3];refine qJc 2 65 (v:= ?_) rfl rfl (by kernel_rfl) (by kernel_rfl) (by kernel_rfl) (fun c a w h=>qBA 65 (by omega) _ c a w h) (by rfl) ?_ ?_;rotate_left
   ·(intro w;go_simp;first|done|with_reducible rfl)
   simp only[sX1,sX2,sX3];refine qJc 3 66 (v:= ?_) rfl rfl (by kernel_rfl) (by kernel_rfl) (by kernel_rfl) (fun c a w h=>qBA 66 (by omega) _ c a w h) (by rfl) ?_ ?_;rotate_left
   ·(intro w;go_simp;first|done|with_reducible rfl)
   simp only[sX1,sX2,sX3];refine qAb 4 67 (v:= ?_) rfl rfl (by kernel_rfl) (by kernel_rfl) (by kernel_rfl) (by kernel_rfl) (by kernel_rfl) (fun c a w h=>qBA 67 (by omega) _ c a w h) (by rfl) ?_ (by assumption) ?_;rotate_left
   ·(intro w hSw;go_simp;first|done|with_reducible rfl)
   simp only[sX1,sX2,sX3];obtain⟨w3',hw3'⟩:∃W,wd.alloc (.cells #[.int .i64 d2.kind,.string ⟨d2.name.toArray⟩,.int .i64 d2.at_,.bool d2.object,.bool d2.mixed,.bool d2.coin,.int .i64 d2.wear,.int .i64 d2.bind,.int .i64 d2.level,.int .i64 d2.time,.int .i64 d2.chance,.int .i64 d2.of_,y2.t,y2.g,y2.b,y2.r,y2.x] 61)=W:=⟨_,rfl⟩;have hB3':Below wd.heap.size wd w3':=by rw[<-hw3'];exact qAa _ _
   have HW3:Hid (qAy w3' wd.heap.size 61 (dcC d2 y2)):=hZ (by rw[<-hw3'];exact qAy.new _ _ _);have HO3:=hZ ((qAg.of_below (S:=fun _=>False) hB3').own HOd.o (fun _ _ h=>h));have X3:=Xd.below hB3' (by have:=Xd.r.lt;omega);have hb3:=hbd.below hB3';have HV3:=hZ (HVd.o.kp (KpX.of_below (X:=[]) hB3') (by simp) (by simp) (by simp));have HM13:=hZ (HM1d.o.below hB3');have HM23:=hZ (HM2d.o.below hB3');have HR3:=hZ (HRd.o.below hB3');have HL3:Hid (LPar w3' d2 y2):=hZ (HLd.o.kp (KpX.of_below (X:=[]) hB3') (by simp) (by simp) (by simp));have HBf:=hZ (HBd.o.trans (hB3'.mono (by have:=HZd.o;have:=Hz5.o;omega)));have HZ3:Hid (b+3<=w3'.heap.size):=hZ (Nat.le_trans HZd.o hB3'.size);clear HOd Xd hbd HVd HM1d HM2d HRd HLd HBd htd hB3';refine eU 5 fun K hK=> ?_;go_simp;refine hK.out _ _ ⟨X3.p.cell,hb3.cell 2,hb3.cell 3,hb3.cell 4,hb3.cell 5,hb3.cell 6,hb3.cell 7,hb3.cell 8,hb3.cell 9,hb3.cell 10,hb3.cell 11,hb3.cell 12,hb3.cell 13,hb3.cell 14,hb3.cell 15,hb3.cell 16,hb3.cell 17,hb3.cell 18⟩ (fun hHeld=> ?_);clear hK K hw3' SD
   try simp only[Act.put,sX1,sX2,sX3]
   refine eU 6 fun K hK=> ?_;have hdl:ds.length<=1000000:=by have:=HL.o;have:=hsz;omega
   refine qBS (W0:=w3') qKQ rfl _ _ rfl (dcC d2 y2) wd.heap.size _ _ _ rfl rfl HW3.o rfl (qFl HL3.o) HO3.o (Below.refl _ _) HZ3.o (by omega) (by omega) ?_;intro g4 cap4 w4' HO4 HB4' HF4 hcap4 hcap4b;have hX4:=KpX.own (X:=[61]) HO3.o HF4.o (by simp);have X4:=X3.below HB4'.o (by have:=Hz5.o;omega);have hb4:RdB w4' b vd s.size (dcC d2 y2):=hX4 _ _ b (by decide) hb3;have HV4:=hZ (HV3.o.kp hX4 (by decide) (by decide) (by decide));have HM14:=hZ (qB6.below2 HM13.o HB4'.o (by omega));have HM24:=hZ (qB6.below2 HM23.o HB4'.o (by omega));have HR4:=hZ (HR3.o.kp hX4 (by decide) (by decide));have HL4:Hid (LPar w4' d2 y2):=hZ (HL3.o.kp hX4 (by decide) (by decide) (by decide));have HB4:=hZ (HBf.o.trans (HB4'.o.mono (by have:=Hz5.o;omega)));have HZ4:Hid (b+3<=w4'.heap.size):=hZ (Nat.le_trans HZ3.o HB4'.o.size);clear X3 hb3 HV3 HM13 HM23 HR3 HL3 HBf HZ3 hX4 HO3 HW3 HB4' HF4;refine hK.out _ _ ⟨X4.p.cell,hb4.cell 2,hb4.cell 3,hb4.cell 4,hb4.cell 5,hb4.cell 6,hb4.cell 7,hb4.cell 8,hb4.cell 9,hb4.cell 10,hb4.cell 11,hb4.cell 12,hb4.cell 13,hb4.cell 14,hb4.cell 15,hb4.cell 16,hb4.cell 17,hb4.cell 18⟩ (fun hHeld=> ?_);clear hK K
   try simp only[Act.put,sX1,sX2,sX3]
   obtain⟨w5',hw5'⟩:∃W,w4'.setCell ⟨B,0,none⟩ (.slice (some ⟨g4,0,none⟩) (ds.length+1) cap4)=W:=⟨_,rfl⟩;have X5:Bx3 w5' B (.slice (some ⟨g4,0,none⟩) (ds.length+1) cap4) 0 0:=by rw[<-hw5'];exact X4.setp _
   have hO5:qAg (fun j=>j=B\/j=B+1\/j=B+1+1) w4' w5':=by rw[<-hw5'];exact(qAg.refl (fun j=>j=B\/j=B+1\/j=B+1+1) w4').set (p:=⟨B,0,none⟩) (.inl rfl) _
   have hX5:=X4.kp hO5;have HO5:=hZ (qBJ HO4.o hX5 (by decide));have HV5:=hZ (HV4.o.kp hX5 (by decide) (by decide) (by decide));have HM15:=hZ (HM14.o.only hO5 (by have:=Hz5.o;omega));have HM25:=hZ (HM24.o.only hO5 (by have:=Hz5.o;omega));have HR5:=hZ (HR4.o.kp hX5 (by decide) (by decide));have HL5:Hid (LPar w5' d2 y2):=hZ (HL4.o.kp hX5 (by decide) (by decide) (by decide));have HB5:Hid (Below B w w5'):=hZ (hO5.below HB4.o (by have:=HZ4.o;have:=Hz5.o;omega) (fun k hk=>by omega));have HZ5:Hid (b+3<=w5'.heap.size):=hZ (Nat.le_trans HZ4.o hO5.size);have p1:=X4.p.cell;have p2:=X4.p.frozen;clear HV4 HM14 HM24 HR4 HL4 HB4 HZ4 HO4 hO5 hX5 hb4 X4;refine lU 7 fun K hK=> ?_;go_simp;refine hK.out _ _ ?_;clear hK K
   try simp only[Act.put,sX1,sX2,sX3]
   refine dU ?_;clear hHeld;clear hw5' p1 p2
   go_wp2_with fail
   go_roundw
   case rel=>
    obtain⟨f2,rfl⟩:∃f2,f1=f2+1:=⟨f1-1,by have:=HL.o.1;simp at this;omega⟩;have hla:(ds++[d2]).length=ds.length+1:=by simp
    refine⟨ds++[d2],css++[dcC d2 y2],_,f2,l2,_,d2,hZ (by rw[HQ.o,qJf]),hZ (by have:=HL.o;have:=Hl2.o;simp at *;omega),HR5,hZ ⟨y2,rfl,HL5.o⟩,HM15,HM25,hZ X5,hZ ?_,HV5,HB5,HZ5⟩;have h9:=HO5.o;rw[hla];simpa using h9
   case measure=>
    rw[HR5.o.len,HR.o.len];have:=Hl2.o;simp at this ⊢;omega
def QD(w:World)(bd:Nat)(d:Dc)(y:Ls):Prop:=w.heap[bd]? =some (.cells (dcC d y).toArray 34 (0,0))
theorem QD.lt{w:World}{bd:Nat}{d:Dc}{y:Ls}(h:QD w bd d y):bd<w.heap.size:=qAq h
theorem QD.cell{w:World}{bd:Nat}{d:Dc}{y:Ls}(h:QD w bd d y)(j:Nat):w.cell? ⟨bd,j,none⟩=(dcC d y)[j]? :=by
 rw[cell_of_row w bd j _ _ (0,0) h];simp
theorem QD.frozen{w:World}{bd:Nat}{d:Dc}{y:Ls}(h:QD w bd d y)(j:Nat):w.frozen? ⟨bd,j,none⟩=false:=by
 unfold QD at h;simp[World.frozen?,h]
abbrev LRef:=qJQ 74 30
theorem LRef.same{w:World}{d d':Dc}{y:Ls}(h:LRef w d y)(h1:d'.take=d.take)(h2:d'.give=d.give)(h3:d'.back=d.back)(h4:d'.rows=d.rows)(h5:d'.brs=d.brs):LRef w d' y:=
 ⟨h1▸h.t,h2▸h.g,h3▸h.b,h4▸h.r,h5▸h.x⟩
def stC(x:Bs):List Value:=[.string ⟨x.toArray⟩]
theorem qCe.of_own{w:World}{base:Nat}{v:Value}{l:List Bs}(h:w.ownsRow base 9 1 v l.length (l.flatMap stC)):qCe w v l:=by
 refine TSl.of_own (css:=l.map stC) (base:=base) (n:=l.length) (by rw[<-List.flatMap_def];exact h) rfl (by simp[stC]) (by simp) ?_;intro j h1 h2;simp[stC]
theorem qG2:qDT Tryd.prog 31 30 1 24:=qDT.mk (z:=.slice none 0 0) Tryd.underlying31 (by kernel_rfl) rfl (by decide)
theorem qIl(w:World)(d:Dc)(h1:d.take=[])(h2:d.give=[])(h3:d.back=[])(h4:d.rows=[])(h5:d.brs=[]):LRef w d ls0:=by
 refine⟨?_,?_,?_,?_,?_⟩
 ·rw[h1];exact TSl.nil _ _ (by omega)
 ·rw[h2];exact TSl.nil _ _ (by omega)
 ·rw[h3];exact TSl.nil _ _ (by omega)
 ·rw[h4];exact TSl.nil _ _ (by omega)
 ·rw[h5];exact TSl.nil _ _ (by omega)
theorem qHV{w:World}{r:Nat}{cs:Array Value}{e:TypeId}(h:w.heap[r]? =some (.cells cs e (0,0)))(C:Array Value):KpX [e] w (w.setRow r C):=by
 intro e' cs' b he hb;have hne:¬r=b:=by
  rintro rfl;rw[h]at hb;injection hb with hb;injection hb with _ hb;exact he (by simp[hb])
 simp[World.setRow,Array.getElem?_modify,hne,hb]
theorem qHf{w:World}{r:Nat}{cs:Array Value}{e:TypeId}(h:w.heap[r]? =some (.cells cs e (0,0)))(C:Array Value):(w.setRow r C).heap[r]? =some (.cells C e (0,0)):=by
 simp[World.setRow,Array.getElem?_modify,h]
theorem qGa{w0 w:World}{b:Nat}(h:qAg (fun k=>k=b) w0 w)(C:Array Value):qAg (fun k=>k=b) w0 (w.setRow w0.heap.size C):=by
 refine⟨h.os,h.tape,h.output,Nat.le_trans h.size (by simp[World.setRow]),fun k hk hn=> ?_⟩;have hne:¬w0.heap.size=k:=by omega
 rw[<-h.block k hk hn];simp[World.setRow,Array.getElem?_modify,hne]
theorem qJI{w:World}{bd:Nat}{d:Dc}{y:Ls}(_:∃y,QD w bd d y/\LRef w d y)(_:QD w bd d y)(h:LRef w d y):(dcC d y).toArray.all (·.oneCell')=true:=by
 obtain⟨_,_,e1, -,-⟩:=TSl.form h.t;obtain⟨_,_,e2, -,-⟩:=TSl.form h.g;obtain⟨_,_,e3, -,-⟩:=TSl.form h.b;obtain⟨_,_,e4, -,-⟩:=TSl.form h.r;obtain⟨_,_,e5, -,-⟩:=TSl.form h.x;simp[dcC,e1,e2,e3,e4,e5,Value.oneCell']
abbrev DRef:=qF4 74 30
abbrev DsRef:=qCQ 74 30 34
theorem qGy:qDT Tryd.prog 26 34 17 208:=qDT.mk (z:=.agg #[.int .i64 0,.string ⟨#[]⟩,.int .i64 0,.bool false,.bool false,.bool false,.int .i64 0,.int .i64 0,.int .i64 0,.int .i64 0,.int .i64 0,.int .i64 0,.slice none 0 0,.slice none 0 0,.slice none 0 0,.slice none 0 0,.slice none 0 0]) Tryd.underlying26 (by kernel_rfl) rfl (by decide)
theorem qJH{w:World}{d:Dc}{y:Ls}(h:LRef w d y):∀u∈dcC d y,u.oneCell'=true:=by
 obtain⟨_,_,e1, -,-⟩:=TSl.form h.t;obtain⟨_,_,e2, -,-⟩:=TSl.form h.g;obtain⟨_,_,e3, -,-⟩:=TSl.form h.b;obtain⟨_,_,e4, -,-⟩:=TSl.form h.r;obtain⟨_,_,e5, -,-⟩:=TSl.form h.x;simp[dcC,e1,e2,e3,e4,e5,Value.oneCell']
theorem qFi:∀(cs pre suf:List Value),suf.length=cs.length->List.foldl (fun(c:Array Value) x=>c.setIfInBounds x.snd x.fst) (pre++suf).toArray (cs.zipIdx pre.length)=(pre++cs).toArray
 |[],pre,suf,h=>by
  have:suf=[]:=List.eq_nil_of_length_eq_zero h;subst this;rfl
 |c::cs,pre,suf,h=>by
  cases suf with
  |nil=>simp at h
  |cons x suf=>
   have h1:(pre++x::suf).toArray.setIfInBounds pre.length c=((pre++[c])++suf).toArray:=by simp[List.set_append]
   have:=qFi cs (pre++[c]) suf (by simpa using h);rw[List.length_append]at this;rw[List.zipIdx_cons,List.foldl_cons,h1];simpa using this
def smP(off:Bool)(a b:List Pr):Prop:=stL a=stL b/\(off=true->a=b)
theorem smP.len{off:Bool}{a b:List Pr}(h:smP off a b):b.length=a.length:=by simpa[stL]using (congrArg List.length h.1).symm
theorem smP.nth{off:Bool}{a b:List Pr}(h:smP off a b)(k:Nat)(h1:k<a.length)(h2:k<b.length):b[k].n=a[k].n/\b[k].name=a[k].name/\(off=true->b[k].at_=a[k].at_):=by
 have h3:(stL a)[k]? =(stL b)[k]? :=by rw[h.1]
 simp only[stL,List.getElem?_map,List.getElem?_eq_getElem h1,List.getElem?_eq_getElem h2,Option.map_some,Option.some.injEq,Pr.st,Pr.mk.injEq]at h3;exact⟨h3.1.symm,h3.2.1.symm,fun ho=>by have:=h.2 ho;subst this;rfl⟩
theorem qAD.nth{e:TypeId}{w:World}{v:Value}{l:List Pr}(h:qAD e w v l)(i:Nat)(hi:i<l.length):∃g off cap,v=.slice (some ⟨g,off,none⟩) l.length cap/\
 w.cell? ⟨g,off+i*3,none⟩=some (.int .i64 l[i].n)/\w.cell? ⟨g,off+i*3+1,none⟩=some (.string ⟨l[i].name.toArray⟩)/\w.cell? ⟨g,off+i*3+2,none⟩=some (.int .i64 l[i].at_):=by
 obtain⟨g,off,cap,es,hv,h1,h2,h3,rfl, -,hc⟩:=TSl.at_ h i hi;exact⟨g,off,cap,hv,hc 0 (by omega),hc 1 (by omega),hc 2 (by omega)⟩
theorem qA9(off:Bool)(va vb:Value)(a b:List Pr)(w:World)(ha:qAD 74 w va a)(hb:qAD 74 w vb b)(hl:a.length<=1000000)(hs:smP off a b):
 Calls Tryd.prog 78 #[va,vb,.bool off] w fun e w'=>e=.returned (.bool true)/\Below w.heap.size w w':=by
 obtain⟨aa,ca,rfl, -,-⟩:=TSl.form ha;obtain⟨ab,cb,rfl, -,-⟩:=TSl.form hb;have HA:=hZ ha;have HB:=hZ hb;have HS:=hZ hs;have hlen:=hs.len;obtain⟨n,hn⟩:=eX a.length;rw[hlen,hn];rw[hn]at hl;have Hn:=hZ hn;have Hnb:Hid (b.length=n):=hZ (by omega);clear ha hb hs hlen hn
 go_enter Tryd.func78,Tryd.ntmps78
 go_wp2_with fail
 go_loopw [7] (fun iv wr=>∃k:Nat,k<=n/\iv=.int .i64 k/\Hid (Below w.heap.size w wr)) (fun iv _=>n-(intOf iv).toNat)
 case atStart=>exact⟨0,by omega,rfl,hZ (Below.refl _ _)⟩
 case round=>
  obtain⟨k,hk,rfl,HW⟩:=hrel;by_cases hlt:k<n
  ·have h1:k<a.length:=by have:=Hn.o;omega
   have h2:k<b.length:=by have:=Hnb.o;omega
   obtain⟨e1,e2,e3⟩:=HS.o.nth k h1 h2;obtain⟨g,o1,cp,hv,a0,a1,a2⟩:=qAD.nth (HA.o.kp (KpX.of_below (X:=[]) HW.o) (by simp)) k h1;obtain⟨g',o2,cp',hv',b0,b1,b2⟩:=qAD.nth (HB.o.kp (KpX.of_below (X:=[]) HW.o) (by simp)) k h2;injection hv with hv _ hv2;injection hv' with hv' _ hv2';subst hv hv2 hv' hv2';rw[e1]at b0;rw[e2]at b1;have hn0:(0:Int)<=(k:Int):=by omega
   have hn1:(k:Int)<(n:Int):=by omega
   obtain⟨x,hx⟩:=eX (a[k].n);obtain⟨s,hsx⟩:=eX (a[k].name.toArray);obtain⟨y,hy⟩:=eX (a[k].at_);rw[hx]at a0 b0;rw[hsx]at a1 b1;rw[hy]at a2;cases off with
   |false=>
    obtain⟨z,hz⟩:=eX (b[k].at_);rw[hz]at b2;clear e1 e2 e3 hx hsx hy hz h1 h2
    go_wp2_with fail
    go_region
    go_wp2_with fail
    go_roundw
    case rel=>exact⟨k+1,by omega,by go_num,hZ (below_drewN HW.o _)⟩
    case measure=>simp[intOf];omega
   |true=>
    rw[e3 rfl,hy]at b2;clear e1 e2 e3 hx hsx hy h1 h2
    go_wp2_with fail
    go_region
    go_wp2_with fail
    go_roundw
    case rel=>exact⟨k+1,by omega,by go_num,hZ (below_drewN HW.o _)⟩
    case measure=>simp[intOf];omega
  ·have hn1:¬(k:Int)<(n:Int):=by omega
   go_wp2_with fail
   go_ret;exact⟨rfl,HW.o⟩
end Go.Proofs.YtpmnbcdjoomgcaaDoor
