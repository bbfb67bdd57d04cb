/- Flags and parts, in plain Lean, as the reference reads them. -/
import Derived.Test.YtpmnbcdjoomgcaaGreatDoorQPPCatch
import Derived.Test.YtpmnbcdjoomgcaaGreatDoorQPPText
import Derived.Test.YtpmnbcdjoomgcaaGreatDoorQPPOpts
set_option linter.unusedVariables false
set_option linter.unusedSimpArgs false
set_option maxHeartbeats 4000000
set_option maxRecDepth 100000
namespace Go.Proofs.YtpmnbcdjoomgcaaGreatDoor
open Go.RowKit
def qDC(e et dt:TypeId)(w:World)(v:Value)(l:List Dc):Prop:=TSl dt 17 (fun w d cs=>qHO e et w cs d) w v l
theorem qDC.kp{e et dt:TypeId}{X:List TypeId}{w w':World}{v:Value}{l:List Dc}(h:qDC e et dt w v l)(hk:KpX X w w')(h1:e∉X)(h2:et∉X)(h3:98∉X)(h4:dt∉X):qDC e et dt w' v l:=
 TSl.kp h hk h4 (fun _ _ h=>h.kp hk h1 h2 h3)
abbrev DsPar:=qDC 55 50 53
theorem qDB.of_own{e:TypeId}{w:World}{base:Nat}{v:Value}{l:List Tok}(h:w.ownsRow base e 4 v l.length (qBm l)):qDB e w v l:=by
 refine TSl.of_own (css:=l.map qBy) (base:=base) (n:=l.length) (by rw[<-List.flatMap_def];exact h) rfl (fun cs hc=>by obtain⟨x,_,rfl⟩:=List.mem_map.1 hc;rfl) (by simp) ?_;intro j h1 h2;simp
def qIZ(s:ByteArray)(w:World)(e:Ending)(w':World):Prop:=
 Below w.heap.size w w'/\((∃ds v,qAE s.data.toList=.ok ds/\ds.length<=s.size/\e=.returned (.tuple #[v,.int .i64 0,.int .i64 0])/\DsPar w' v ds)\/
  (∃k er,qAE s.data.toList=.error (k,er)/\e=.returned (.tuple #[.slice none 0 0,.int .i64 (k:Nat),.int .i64 er])/\(er=2\/er=4)))
theorem qDc{P:Program}{fn:Func}{t t':Array Value}{R:Ending->World->Prop}(hr:results fn t'=results fn t):∀(ds:List Deferred) (m:FrameMode) (w:World),Leaves P fn t' R ds m w->Leaves P fn t R ds m w
 |[],m,w,h=>by
  cases m with
  |returning=>unfold Leaves at h ⊢;rw[hr]at h;exact h
  |panicking c=>unfold Leaves at h ⊢;exact h
  |run=>unfold Leaves at h;exact h.elim
 |d::ds,m,w,h=>by
  unfold Leaves at h ⊢;obtain⟨h1,fv,cap,f,args,h2,h3,h4⟩:=h;refine⟨h1,fv,cap,f,args,h2,h3,h4.mono ?_⟩;intro e u' w' he;cases e with
  |returned _=>exact qDc hr ds _ _ he
  |panicked _=>exact qDc hr ds _ _ he
  |outgrown=>exact he
theorem qBM{R:Ending->World->Prop}(i:Nat)(hi:5<=i)(v:Value)(c:List PanicEntry)(a:Act)(w:World)(h:bodyPostD Tryz.prog Tryz.f13 R (.panic c) (a.put (some i) v) w):bodyPostD Tryz.prog Tryz.f13 R (.panic c) a w:=by
 have hr:results Tryz.f13 (a.put (some i) v).tmps=results Tryz.f13 a.tmps:=by
  have g:∀j,j<5->(a.put (some i) v).tmps[j]?.getD undef=a.tmps[j]?.getD undef:=by
   intro j hj
   show(a.tmps.setIfInBounds i v)[j]?.getD undef=_
   rw[Array.getElem?_setIfInBounds,if_neg (by omega)]
  unfold results;simp only[Tryz.results13];simp[g 2 (by omega),g 3 (by omega),g 4 (by omega)]
 exact qDc hr _ _ _ h
def DsV(w:World)(css:List (List Value))(l:List Dc):Prop:=css.length=l.length/\∀j (h:j<l.length) (h':j<css.length),DPar w css[j] l[j]
theorem DsV.nil(w:World):DsV w [] []:=⟨rfl,fun j h=>by simp at h⟩
theorem DsV.kp{X:List TypeId}{w w':World}{css:List (List Value)}{l:List Dc}(h:DsV w css l)(hk:KpX X w w')(h1:55∉X)(h2:50∉X)(h3:98∉X):DsV w' css l:=⟨h.1,fun j a b=>(h.2 j a b).kp hk h1 h2 h3⟩
theorem DsV.snoc{w:World}{css:List (List Value)}{l:List Dc}{cs:List Value}{d:Dc}(h:DsV w css l)(hd:DPar w cs d):DsV w (css++[cs]) (l++[d]):=by
 refine⟨by simp[h.1],fun j h1 h2=> ?_⟩;by_cases hj:j<l.length
 ·rw[List.getElem_append_left hj,List.getElem_append_left (by rw[h.1];exact hj)]
  exact h.2 j hj (by rw[h.1];exact hj)
 ·have h3:j=l.length:=by simp at h1;omega
  subst h3;have h4:=h.1;rw[List.getElem_append_right (Nat.le_refl _),List.getElem_append_right (by omega)];simpa using hd
theorem DsV.ds{w:World}{base:Nat}{v:Value}{css:List (List Value)}{l:List Dc}(h:DsV w css l)(ho:w.ownsRow base 53 17 v l.length css.flatten):DsPar w v l:=by
 refine TSl.of_own (css:=css) (base:=base) (n:=l.length) ho rfl (fun cs hc=> ?_) h.1 (fun j a b=>h.2 j a b);obtain⟨j,hj,rfl⟩:=List.mem_iff_getElem.1 hc;obtain⟨y,hy,-⟩:=h.2 j (by rw[<-h.1];exact hj) hj;rw[hy];rfl
theorem qK7:qD4 Tryz.prog 39 53 17 208:=qD4.mk (z:=.agg #[.int .i64 0,.string ⟨#[]⟩,.int .i64 0,.bool false,.bool false,.bool false,.int .i64 0,.int .i64 0,.int .i64 0,.int .i64 0,.int .i64 0,.int .i64 0,.slice none 0 0,.slice none 0 0,.slice none 0 0,.slice none 0 0,.slice none 0 0]) Tryz.underlying39 (by kernel_rfl) rfl (by decide)
def qHQ(acc:List Dc)(x:Except (List Tok) (List Dc)):Except (List Tok) (List Dc):=match x with|.ok y=> .ok (acc++y)|.error z=> .error z
theorem qGS(x:Except (List Tok) (List Dc)):qHQ [] x=x:=by cases x<;>rfl
theorem qGT(a b:List Dc)(x:Except (List Tok) (List Dc)):qHQ a (qHQ b x)=qHQ (a++b) x:=by cases x<;>simp[qHQ]
theorem qIh(f:Nat)(t:Tok)(r:List Tok):qEZ (f+1) (t::r)=match qA6 (t::r)with|.error z=> .error z|.ok (d,l)=>qHQ [d] (qEZ f l):=by
 rw[qEZ];cases qA6 (t::r)with
 |error z=>rfl
 |ok y=>
  obtain⟨d,l⟩:=y;simp only[];cases qEZ f l<;>rfl
theorem qIg{k:Nat}{d d':Dc}{l l':List Tok}(h:qA3 k d l=.ok (d',l')):l'.length<=l.length:=by
 have opts:∀(known:List Fg) (f:Nat) (seen:List Fg) (d:Dc) (l:List Tok) (d':Dc) (l':List Tok),qAT known f seen d l=.ok (d',l')->l'.length<=l.length:=by
  intro known f
  induction f with
  |zero=>intro seen d l d' l' h;cases h
  |succ f ih=>
   intro seen d l d' l' h;cases l with
   |nil=>cases h;simp
   |cons t r=>
    rw[qAT]at h
    split at h
    ·split at h
     ·cases h
     ·split at h
      ·cases h
      ·next x _ _=>
       cases h1:pFg x d r with
       |error z=>rw[h1]at h;cases h
       |ok y=>
        obtain⟨d1,l1⟩:=y;rw[h1]at h;have e1:=qGq h1;have e2:=ih _ _ _ _ _ h;simp;omega
    ·cases h;simp
 have rows:∀(f:Nat) (l:List Tok) (x:List (List Pr)) (r:List Tok),qBj f l=.ok (x,r)->r.length<=l.length:=by
  intro f
  induction f with
  |zero=>intro l x r h;cases h
  |succ f ih=>
   intro l x r h;rw[qBU]at h;cases h1:qCu l with
   |error z=>rw[h1]at h;cases h
   |ok y=>
    obtain⟨a,l1⟩:=y;rw[h1]at h;have e1:=qCh h1;simp only[]at h
    split at h
    ·cases h2:qBj f (l1.drop 1)with
     |error z=>rw[h2]at h;cases h
     |ok y=>
      rw[h2]at h;have e2:=ih _ y.1 y.2 h2;cases h;simp at e2;omega
    ·cases h;omega
 have brs:∀(n:Nat) (l:List Tok) (x:List (Int×Int)) (r:List Tok),l.length<=n->qDa l=.ok (x,r)->r.length<=l.length:=by
  intro n
  induction n with
  |zero=>
   intro l x r hl h;obtain rfl:l=[]:=List.eq_nil_of_length_eq_zero (by omega);cases h
  |succ n ih=>
   intro l x r hl h;rw[qGr]at h;cases h1:qAP l with
   |error z=>rw[h1]at h;cases h
   |ok y=>
    obtain⟨a,l1⟩:=y;rw[h1]at h;have e1:=qBb h1;simp only[]at h;cases h2:qAL 2 [58] l1 with
    |error z=>rw[h2]at h;cases h
    |ok y=>
     obtain⟨a2,l2⟩:=y;rw[h2]at h;have e2:=qAv h2;simp only[]at h;cases h3:qAP l2 with
     |error z=>rw[h3]at h;cases h
     |ok y=>
      obtain⟨a3,l3⟩:=y;rw[h3]at h;have e3:=qBb h3;simp only[]at h
      split at h
      ·cases h4:qDa (l3.drop 1)with
       |error z=>rw[h4]at h;cases h
       |ok y=>
        rw[h4]at h;have e4:=ih (l3.drop 1) y.1 y.2 (by simp;omega) h4;cases h;simp at e4;omega
      ·cases h;omega
 unfold qA3 at h
 split at h
 ·exact opts _ _ _ _ _ _ _ h
 ·split at h
  ·exact opts _ _ _ _ _ _ _ h
  ·split at h
   ·cases h1:qBj (l.length+1) l with
    |error z=>rw[h1]at h;cases h
    |ok y=>
     rw[h1]at h;have:=rows _ _ y.1 y.2 h1;cases h;exact this
   ·cases h1:qDa l with
    |error z=>rw[h1]at h;cases h
    |ok y=>
     rw[h1]at h;have:=brs l.length l y.1 y.2 (Nat.le_refl _) h1;cases h;exact this
theorem qFY{d:Dc}{l r:List Tok}(h:qA6 l=.ok (d,r)):r.length<l.length:=by
 unfold qA6 at h;cases hk:qBv l with
 |none=>rw[hk]at h;cases h
 |some k=>
  rw[hk]at h;obtain⟨-,t0,ht0⟩:=qDs hk;have e0:=qAv ht0;simp only[]at h;cases h1:qAL 0 [] (l.drop 1)with
  |error z=>rw[h1]at h;cases h
  |ok y=>
   obtain⟨t,l2⟩:=y;rw[h1]at h;have e1:=qAv h1;simp only[]at h;cases h2:qA3 k (Dc.zero k t.text t.at_) l2 with
   |error z=>rw[h2]at h;cases h
   |ok y=>
    obtain⟨d2,l3⟩:=y;rw[h2]at h;have e2:=qIg h2;simp only[]at h;cases h3:qAL 2 [59] l3 with
    |error z=>rw[h3]at h;cases h
    |ok y=>
     obtain⟨t4,l4⟩:=y;rw[h3]at h;have e3:=qAv h3;cases h;omega
structure Bx3(w:World)(B:Nat)(v:Value)(x y:Int):Prop where
 p:One w B 39 v
 q:One w (B+1) 3 (.int .i64 x)
 r:One w (B+1+1) 40 (.int .i64 y)
theorem Bx3.setp{w:World}{B:Nat}{v:Value}{x y:Int}(h:Bx3 w B v x y)(u:Value):Bx3 (w.setCell ⟨B,0,none⟩ u) B u x y:=⟨h.p.set _,h.q.far (by simp) _,h.r.far (by simp;omega) _⟩
theorem Bx3.setq{w:World}{B:Nat}{v:Value}{x y:Int}(h:Bx3 w B v x y)(u:Int):Bx3 (w.setCell ⟨B+1,0,none⟩ (.int .i64 u)) B v u y:=⟨h.p.far (by simp) _,h.q.set _,h.r.far (by simp) _⟩
theorem Bx3.setr{w:World}{B:Nat}{v:Value}{x y:Int}(h:Bx3 w B v x y)(u:Int):Bx3 (w.setCell ⟨B+1+1,0,none⟩ (.int .i64 u)) B v x u:=⟨h.p.far (by simp;omega) _,h.q.far (by simp) _,h.r.set _⟩
theorem Bx3.below{w w':World}{B C:Nat}{v:Value}{x y:Int}(h:Bx3 w B v x y)(hb:Below C w w')(hC:B+3<=C):Bx3 w' B v x y:=⟨h.p.below hb (by omega),h.q.below hb (by omega),h.r.below hb (by omega)⟩
theorem Bx3.only{S:Nat->Prop}{w w':World}{B:Nat}{v:Value}{x y:Int}(h:Bx3 w B v x y)(ho:qAf S w w')(hS:∀b,S b->B+3<=b):Bx3 w' B v x y:=
 ⟨ho.one h.p (fun e=>by have:=hS _ e;omega),ho.one h.q (fun e=>by have:=hS _ e;omega),ho.one h.r (fun e=>by have:=hS _ e;omega)⟩
theorem Bx3.kp{w w':World}{B:Nat}{v:Value}{x y:Int}(h:Bx3 w B v x y)(ho:qAf (fun j=>j=B\/j=B+1\/j=B+1+1) w w'):KpX [39,3,40] w w':=KpX.of_only ho (fun j hj e cs hh=>by
 rcases hj with rfl|rfl|rfl
 ·rw[h.p]at hh;injection hh with hh;injection hh with _ hh;simp[hh]
 ·rw[h.q]at hh;injection hh with hh;injection hh with _ hh;simp[hh]
 ·rw[h.r]at hh;injection hh with hh;injection hh with _ hh;simp[hh])
theorem qCn{C:Nat}{w w':World}(h:Below C w w'){b:Nat}(hb:C<=b)(v:Value):Below C w (w'.setCell ⟨b,0,none⟩ v):=h.setCell (p:=⟨b,0,none⟩) hb v
theorem qFB{e et:TypeId}{w:World}{d:Dc}{y:Ls}(h:qJW e et w d y):∀u∈dcC d y,u.oneCell'=true:=by
 obtain⟨a1,c1,h1,-⟩:=TSl.form h.t;obtain⟨a2,c2,h2,-⟩:=TSl.form h.g;obtain⟨a3,c3,h3,-⟩:=TSl.form h.b;obtain⟨a4,c4,h4,-⟩:=TSl.form h.r;obtain⟨a5,c5,h5,-⟩:=TSl.form h.x;intro u hu;simp[dcC,h1,h2,h3,h4,h5]at hu;rcases hu with rfl|rfl|rfl|rfl|rfl|rfl|rfl|rfl|rfl|rfl|rfl|rfl|rfl|rfl|rfl|rfl|rfl<;>rfl
theorem qDq(s:ByteArray)(w:World)(hs:s.size<=100000)(hK:qBa w):
 Calls Tryz.prog 13 #[.string s] w (qIZ s w):=by
 have hmf:∀(fn:Fn) (first cap:Array Value) (w:World),(Instr.makeFunc fn first cap).run Tryz.prog w=.ok (.func fn first cap) w:=fun _ _ _ _=>rfl;obtain⟨w3,hw3⟩:=eX (((w.alloc (.cells #[.slice none 0 0] 39)).alloc (.cells #[.int .i64 0] 3)).alloc (.cells #[.int .i64 0] 40));have hB3:Below w.heap.size w w3:=by rw[<-hw3];exact((qCL _ _ _).alloc (by simp;omega) _)
 have hK3:qBa w3:=hK.below hB3 hK.lt;have HC:=hZ (qEQ s w3 (by omega) hK3);have o1:One w3 w.heap.size 39 (.slice none 0 0):=by rw[<-hw3];exact((One.new w _ _).alloc _).alloc _
 have o2:One w3 (w.heap.size+1) 3 (.int .i64 0):=by
  rw[<-hw3];have:=(One.new (w.alloc (.cells #[.slice none 0 0] 39)) 3 (.int .i64 0)).alloc (.cells #[.int .i64 0] 40);rw[World.size_alloc]at this;exact this
 have o3:One w3 (w.heap.size+1+1) 40 (.int .i64 0):=by
  rw[<-hw3];have:=One.new ((w.alloc (.cells #[.slice none 0 0] 39)).alloc (.cells #[.int .i64 0] 3)) 40 (.int .i64 0);rw[World.size_alloc,World.size_alloc]at this;exact this
 obtain⟨B,hBe⟩:=eX w.heap.size;rw[hBe]at o1 o2 o3 hB3;have hz3:w3.heap.size=B+3:=by rw[<-hw3];simp[hBe]
 have HB3:=hZ hB3;have HBe:=hZ hBe;clear hK hK3
 go_enter_defers Tryz.func13,Tryz.ntmps13
 go_wp2_with fail
 clear hw3 hBe;refine HC.o.mono ?_;rintro e w4 ⟨hB4,⟨ts,v,hx,hlen,rfl,hown⟩|⟨k,er,hx,rfl,her⟩⟩;rotate_left
 ·have X4:Bx3 w4 B (.slice none 0 0) 0 0:=Bx3.below ⟨o1,o2,o3⟩ hB4 (by omega)
  have HB4:=hZ (HB3.o.trans (hB4.mono (by omega)));have HE:Hid (qAE s.data.toList=.error (k,er)):=hZ (by
   unfold qAE;unfold lxs at hx;have h9:s.data.toList.length=s.size:=by simp
   rw[h9,hx])
  have hne:¬er=0:=by omega
  have Her:=hZ her;obtain⟨w5,hw5⟩:=eX ((w4.setCell ⟨B+1,0,none⟩ (.int .i64 (k:Nat))).setCell ⟨B+1+1,0,none⟩ (.int .i64 er));have X5:Bx3 w5 B (.slice none 0 0) k er:=by rw[<-hw5];exact(X4.setq _).setr _
  have HB5:Hid (Below B w w5):=hZ (by rw[<-hw5];exact qCn (qCn HB4.o (by omega) _) (by omega) _);have a2:=X4.q.cell;have a3:=X4.r.cell;have b2:=X4.q.frozen;have b3:=X4.r.frozen;have c2:=X5.q.cell;have c3:=X5.r.cell;clear hx hB4 her HC o1 o2 o3 hz3 X4
  go_wp2_with fail
  clear hw5 a2 a3 b2 b3 c2 c3;obtain⟨w6,hw6⟩:=eX w5.drew;have X6:Bx3 w6 B (.slice none 0 0) k er:=by rw[<-hw6];exact⟨X5.p.drew,X5.q.drew,X5.r.drew⟩
  have HB6:Hid (Below B w w6):=hZ (by rw[<-hw6];exact HB5.o.drew);refine qAr [] (fun W=>W.cell? ⟨B+1,0,none⟩=some (.int .i64 (k:Nat))/\W.cell? ⟨B+1+1,0,none⟩=some (.int .i64 er)) (by kernel_rfl) (by rw[hw6];exact⟨X6.q.cell,X6.r.cell⟩) (fun hHeld=> ?_);rw[hw6]at hHeld ⊢;clear hw6 X5 HB5;refine qAc 0 17 (v:= ?_) rfl rfl (by kernel_rfl) (by kernel_rfl) (by kernel_rfl) (by kernel_rfl) (by kernel_rfl) (fun c a w h=>qBM 17 (by omega) _ c a w h) (by rfl) ?_ (by assumption) ?_;rotate_left
  ·(intro w hSw;go_simp;first|done|with_reducible rfl)
  simp only[sX1,sX2,sX3];refine qAc 1 18 (v:= ?_) rfl rfl (by kernel_rfl) (by kernel_rfl) (by kernel_rfl) (by kernel_rfl) (by kernel_rfl) (fun c a w h=>qBM 18 (by omega) _ c a w h) (by rfl) ?_ (by assumption) ?_;rotate_left
  ·(intro w hSw;go_simp;first|done|with_reducible rfl)
  simp only[sX1,sX2,sX3];obtain⟨w7,hw7⟩:=eX (w6.setCell ⟨B,0,none⟩ (.slice none 0 0));have X7:Bx3 w7 B (.slice none 0 0) k er:=by rw[<-hw7];exact X6.setp _
  have HB7:Hid (Below B w w7):=hZ (by rw[<-hw7];exact qCn HB6.o (by omega) _);have a1:=X6.p.cell;have b1:=X6.p.frozen;refine eU 2 fun K hK=> ?_;go_simp;refine hK.out _ _ ⟨X7.q.cell,X7.r.cell⟩ (fun hHeld=> ?_);clear hK K hw7 a1 b1 X6 HB6
  try simp only[Act.put,sX1,sX2,sX3]
  obtain⟨w8,hw8⟩:=eX (w7.setCell ⟨B+1,0,none⟩ (.int .i64 (k:Nat)));have X8:Bx3 w8 B (.slice none 0 0) k er:=by rw[<-hw8];exact X7.setq _
  have HB8:Hid (Below B w w8):=hZ (by rw[<-hw8];exact qCn HB7.o (by omega) _);have a1:=X7.q.cell;have b1:=X7.q.frozen;refine eU 3 fun K hK=> ?_;go_simp;refine hK.out _ _ ⟨X8.q.cell,X8.r.cell⟩ (fun hHeld=> ?_);clear hK K hw8 a1 b1 X7 HB7
  try simp only[Act.put,sX1,sX2,sX3]
  obtain⟨w9,hw9⟩:=eX (w8.setCell ⟨B+1+1,0,none⟩ (.int .i64 er));have X9:Bx3 w9 B (.slice none 0 0) k er:=by rw[<-hw9];exact X8.setr _
  have HB9:Hid (Below B w w9):=hZ (by rw[<-hw9];exact qCn HB8.o (by omega) _);have a1:=X8.r.cell;have b1:=X8.r.frozen;refine eU 4 fun K hK=> ?_;go_simp;refine hK.out _ _ ⟨X9.q.cell,X9.r.cell⟩ (fun hHeld=> ?_);clear hK K hw9 a1 b1 X8 HB8
  try simp only[Act.put,sX1,sX2,sX3]
  refine dU ?_;clear hHeld
  go_wp2_with fail
  have e1:=X9.p.cell;have e2:=X9.q.cell;have e3:=X9.r.cell;simp[bodyPostD,Leaves,settle,results,Tryz.results13,go_sem,e1,e2,e3];exact⟨HB9.o.mono (by have:=HBe.o;omega),.inr ⟨k,er,HE.o,rfl,Her.o⟩⟩
 have HT:Hid (qAE s.data.toList=qC6 s.size ts):=hZ (by
  unfold qAE;unfold lxs at hx;have h9:s.data.toList.length=s.size:=by simp
  rw[h9,hx])
 have X4:Bx3 w4 B (.slice none 0 0) 0 0:=Bx3.below ⟨o1,o2,o3⟩ hB4 (by omega);have HB4:=hZ (HB3.o.trans (hB4.mono (by omega)));have htk:=qDB.of_own hown;have hl:ts.length<=s.size:=hlen;obtain⟨a,cap,rfl,hc1,hc2⟩:=TSl.form htk;obtain⟨w5,hw5⟩:=eX ((w4.setCell ⟨B+1,0,none⟩ (.int .i64 0)).setCell ⟨B+1+1,0,none⟩ (.int .i64 0));have X5:Bx3 w5 B (.slice none 0 0) 0 0:=by rw[<-hw5];exact(X4.setq _).setr _
 have hO5:qAf (fun j=>j=B+1\/j=B+1+1) w4 w5:=by rw[<-hw5];exact((qAf.refl (fun j=>j=B+1\/j=B+1+1) w4).set (p:=⟨B+1,0,none⟩) (.inl rfl) _).set (p:=⟨B+1+1,0,none⟩) (.inr rfl) _
 have hX5:KpX [3,40] w4 w5:=KpX.of_only hO5 (fun j hj e cs hh=>by
  rcases hj with rfl|rfl
  ·rw[X4.q]at hh;injection hh with hh;injection hh with _ hh;simp[hh]
  ·rw[X4.r]at hh;injection hh with hh;injection hh with _ hh;simp[hh])
 have hB5:Below B w w5:=by rw[<-hw5];exact qCn (qCn HB4.o (by omega) _) (by omega) _
 have a2:=X4.q.cell;have a3:=X4.r.cell;have b2:=X4.q.frozen;have b3:=X4.r.frozen;have c3:=X5.r.cell
 --the reader
 obtain⟨w6,hw6⟩:=eX (w5.alloc (.cells #[.slice a ts.length cap,.int .i64 (s.size:Int),.int .i64 0,.string ⟨#[]⟩,.int .i64 0,.bool false,.bool false,.bool false,.int .i64 0,.int .i64 0,.int .i64 0,.int .i64 0,.int .i64 0,.int .i64 0,.slice none 0 0,.slice none 0 0,.slice none 0 0,.slice none 0 0,.slice none 0 0] 70));have hb6:RdB w6 w5.heap.size (.slice a ts.length cap) s.size (dcC (Dc.zero 0 [] 0) ls0):=by rw[<-hw6];exact heap_alloc_new w5 _
 have hB6:Below w5.heap.size w5 w6:=by rw[<-hw6];exact qAa _ _
 have hz5:B+3<=w5.heap.size:=by have:=hO5.size;have:=hB4.size;omega
 obtain⟨b,hbe⟩:=eX w5.heap.size;have HR6:Hid (Rdr w6 b s.size ts (dcC (Dc.zero 0 [] 0) ls0)):=hZ ⟨_,hbe▸hb6,(htk.kp hX5 (by decide)).below hB6⟩;have X6:Bx3 w6 B (.slice none 0 0) 0 0:=X5.below hB6 hz5;have HB6:Hid (Below B w w6):=hZ (hB5.trans (hB6.mono (by omega)));have hz6:w6.heap.size=b+1:=by rw[<-hw6];simp[hbe]
 --the maps
 have hmk:=fun w=>run_makeMap_plain (P:=Tryz.prog) w 71;obtain⟨m0,hm0⟩:=eX (w6.alloc (.map #[] 0));have s0:qCo m0 (b+1) []:=by rw[<-hm0,<-hz6];exact qCo.made w6
 have hBm0:Below w6.heap.size w6 m0:=by rw[<-hm0];exact qAa _ _
 have hzm0:m0.heap.size=b+2:=by rw[<-hm0];simp[hz6]
 obtain⟨m1,em1,sm1,om1,zm1⟩:=qA5 (P:=Tryz.prog) s0 Tryz.underlying71 Tryz.underlying9 [111,98,106,101,99,116] (.func (.func 24) #[.pointer (some ⟨b,0,none⟩)] #[]) rfl;obtain⟨m2,em2,sm2,om2,zm2⟩:=qA5 (P:=Tryz.prog) sm1 Tryz.underlying71 Tryz.underlying9 [109,105,120,101,100] (.func (.func 25) #[.pointer (some ⟨b,0,none⟩)] #[]) rfl;obtain⟨m3,em3,sm3,om3,zm3⟩:=qA5 (P:=Tryz.prog) sm2 Tryz.underlying71 Tryz.underlying9 [99,111,105,110] (.func (.func 26) #[.pointer (some ⟨b,0,none⟩)] #[]) rfl;obtain⟨m4,em4,sm4,om4,zm4⟩:=qA5 (P:=Tryz.prog) sm3 Tryz.underlying71 Tryz.underlying9 [119,101,97,114] (.func (.func 27) #[.pointer (some ⟨b,0,none⟩)] #[]) rfl;obtain⟨m5,em5,sm5,om5,zm5⟩:=qA5 (P:=Tryz.prog) sm4 Tryz.underlying71 Tryz.underlying9 [98,105,110,100] (.func (.func 28) #[.pointer (some ⟨b,0,none⟩)] #[]) rfl;obtain⟨m6,em6,sm6,om6,zm6⟩:=qA5 (P:=Tryz.prog) sm5 Tryz.underlying71 Tryz.underlying9 [108,101,118,101,108] (.func (.func 29) #[.pointer (some ⟨b,0,none⟩)] #[]) rfl;have oM:qAf (fun c=>c=b+1) m0 m6:=((((om1.trans om2).trans om3).trans om4).trans om5).trans om6;have hzm6:m6.heap.size=b+2:=by omega
 obtain⟨n0,hn0⟩:=eX (m6.alloc (.map #[] 0));have t0:qCo n0 (b+2) []:=by rw[<-hn0,<-hzm6];exact qCo.made m6
 have hBn0:Below m6.heap.size m6 n0:=by rw[<-hn0];exact qAa _ _
 have hzn0:n0.heap.size=b+3:=by rw[<-hn0];simp[hzm6]
 obtain⟨n1,en1,sn1,on1,zn1⟩:=qA5 (P:=Tryz.prog) t0 Tryz.underlying71 Tryz.underlying9 [108,101,118,101,108] (.func (.func 29) #[.pointer (some ⟨b,0,none⟩)] #[]) rfl;obtain⟨n2,en2,sn2,on2,zn2⟩:=qA5 (P:=Tryz.prog) sn1 Tryz.underlying71 Tryz.underlying9 [116,105,109,101] (.func (.func 30) #[.pointer (some ⟨b,0,none⟩)] #[]) rfl;obtain⟨n3,en3,sn3,on3,zn3⟩:=qA5 (P:=Tryz.prog) sn2 Tryz.underlying71 Tryz.underlying9 [99,104,97,110,99,101] (.func (.func 31) #[.pointer (some ⟨b,0,none⟩)] #[]) rfl;obtain⟨n4,en4,sn4,on4,zn4⟩:=qA5 (P:=Tryz.prog) sn3 Tryz.underlying71 Tryz.underlying9 [116,97,107,101] (.func (.func 32) #[.pointer (some ⟨b,0,none⟩)] #[]) rfl;obtain⟨n5,en5,sn5,on5,zn5⟩:=qA5 (P:=Tryz.prog) sn4 Tryz.underlying71 Tryz.underlying9 [103,105,118,101] (.func (.func 33) #[.pointer (some ⟨b,0,none⟩)] #[]) rfl;obtain⟨n6,en6,sn6,on6,zn6⟩:=qA5 (P:=Tryz.prog) sn5 Tryz.underlying71 Tryz.underlying9 [98,97,99,107] (.func (.func 34) #[.pointer (some ⟨b,0,none⟩)] #[]) rfl;have oN:qAf (fun c=>c=b+2) n0 n6:=((((on1.trans on2).trans on3).trans on4).trans on5).trans on6;have hzn6:n6.heap.size=b+3:=by omega
 have HMf:Hid (qCo n6 (b+1) (qCB fgN b qCs)):=hZ ((sm6.below hBn0).only oN (by omega));have HMp:Hid (qCo n6 (b+2) (qCB fgN b qBT)):=hZ sn6;have OA:qAf (fun c=>c=b+1\/c=b+2) w6 n6:=(((qAf.of_below hBm0).trans (oM.mono (fun _ h=> .inl h))).trans (qAf.of_below hBn0)).trans (oN.mono (fun _ h=> .inr h));have hBn:Below w6.heap.size w6 n6:=⟨OA.os,OA.tape,OA.output,OA.size,fun k hk=>OA.block k hk (by omega)⟩;have HRn:=hZ (HR6.o.below hBn);have Xn:=X6.below hBn (by omega);have HBn:=hZ (HB6.o.trans (hBn.mono (by omega)));clear hx hown hB4 HC o1 o2 o3 hz3 X4 HB4 htk hlen hO5 hX5 hB5 hb6 hB6 X5 X6 HB6 HR6 s0 hBm0 t0 hBn0 oM oN OA hBn sm1 sm2 sm3 sm4 sm5 sm6 sn1 sn2 sn3 sn4 sn5 sn6 om1 om2 om3 om4 om5 om6 on1 on2 on3 on4 on5 on6;have hsz:s.size<=100000:=hs;have HTK:Hid (ts.length<=s.size):=hZ hl;have Hz5:Hid (B+3<=b):=hZ (by omega)
 go_wp2_with fail
 clear hmk em1 em2 em3 em4 em5 em6 en1 en2 en3 en4 en5 en6 hm0 hn0 hw5 hw6 a2 a3 b2 b3 c3 zm1 zm2 zm3 zm4 zm5 zm6 zn1 zn2 zn3 zn4 zn5 zn6 hzm0 hzm6 hzn0 hbe hz6 hl hc1 hc2 hmf
 go_loopw [] (fun wr=>∃(ds:List Dc) (css:List (List Value)) (v:Value) (f1:Nat) (l1:List Tok) (cs:List Value) (d1:Dc),Hid (qEZ (ts.length+1) ts=qHQ ds (qEZ (f1+1) l1))/\Hid (l1.length<=f1/\ds.length+l1.length<=s.size)/\Hid (Rdr wr b s.size l1 cs)/\Hid (DPar wr cs d1)/\
  Hid (qCo wr (b+1) (qCB fgN b qCs))/\Hid (qCo wr (b+2) (qCB fgN b qBT))/\Hid (Bx3 wr B v 0 0)/\Hid (wr.ownsRow (b+3) 53 17 v ds.length css.flatten)/\Hid (DsV wr css ds)/\Hid (Below B w wr)/\Hid (b+3<=wr.heap.size)) (fun wr=>qGx wr b)
 case atStart=>
  exact⟨[],[],_,ts.length,ts,_,Dc.zero 0 [] 0,hZ (qGS _).symm,hZ ⟨Nat.le_refl _,by have:=HTK.o;simp;exact this⟩,HRn,hZ ⟨ls0,rfl,TSl.nil _ _ (by omega),TSl.nil _ _ (by omega),TSl.nil _ _ (by omega),TSl.nil _ _ (by omega),TSl.nil _ _ (by omega)⟩,
   HMf,HMp,hZ Xn,hZ (World.ownsRow_nil _ _ _ _),hZ (DsV.nil _),HBn,hZ (by omega)⟩
 case round=>
  obtain⟨ds,css,v,f1,l1,cs,d1,HE,HL,HR,HD,HM1,HM2,HX,HO,HV,HB,HZ⟩:=hrel;clear HRn HMf HMp Xn HBn;obtain⟨v1,hb1,ht1⟩:=HR.o;have c0:wr.cell? ⟨b,0,none⟩=some v1:=hb1.cell 0;obtain⟨a1,cp1,rfl, -,-⟩:=TSl.form ht1;cases l1 with
  |nil=>
   have hds:=HV.o.ds HO.o;obtain⟨av,cv,rfl, -,-⟩:=TSl.form hds;have HQ:Hid (qAE s.data.toList=.ok ds):=hZ (by rw[HT.o];unfold qC6;rw[HE.o];simp[qEZ,qHQ]);obtain⟨w9,hw9⟩:=eX (((wr.setCell ⟨B,0,none⟩ (.slice av ds.length cv)).setCell ⟨B+1,0,none⟩ (.int .i64 0)).setCell ⟨B+1+1,0,none⟩ (.int .i64 0));have X9:Bx3 w9 B (.slice av ds.length cv) 0 0:=by rw[<-hw9];exact((HX.o.setp _).setq _).setr _
   have hO9:qAf (fun j=>j=B\/j=B+1\/j=B+1+1) wr w9:=by rw[<-hw9];exact(((qAf.refl (fun j=>j=B\/j=B+1\/j=B+1+1) wr).set (p:=⟨B,0,none⟩) (.inl rfl) _).set (p:=⟨B+1,0,none⟩) (.inr (.inl rfl)) _).set (p:=⟨B+1+1,0,none⟩) (.inr (.inr rfl)) _
   have hX9:=HX.o.kp hO9;have HD9:=hZ (hds.kp hX9 (by decide) (by decide) (by decide) (by decide));have HB9:Hid (Below B w w9):=hZ (hO9.below HB.o (by have:=HZ.o;have:=Hz5.o;omega) (fun k hk=>by omega));have p1:=HX.o.p.cell;have p2:=HX.o.q.cell;have p3:=HX.o.r.cell;have q1:=HX.o.p.frozen;have q2:=HX.o.q.frozen;have q3:=HX.o.r.frozen;have hn12:¬B=B+1/\¬B=B+1+1:=by omega
   clear hb1 ht1 hds hO9 hX9 HE HR HD HM1 HM2 HX HO HV HB
   go_wp2_with fail
   refine leaves_cons (f:=23) (args:=#[.pointer (some ⟨B,0,none⟩),.pointer (some ⟨B+1,0,none⟩),.pointer (some ⟨B+1+1,0,none⟩)]) (by simp) (by simp[go_sem]) ?_;refine(qJP _ _ _ _).mono ?_;rintro e u' w10 ⟨rfl,rfl,hB10⟩;have X10:=X9.below hB10 (by have:=X9.r.lt;omega);have e1:=X10.p.cell;have e2:=X10.q.cell;have e3:=X10.r.cell;have HD10:=HD9.o.kp (KpX.of_below (X:=[]) hB10) (by simp) (by simp) (by simp) (by simp);have HB10:=HB9.o.trans (hB10.mono (by have:=X9.r.lt;omega));simp[Leaves,settle,results,Tryz.results13,go_sem,e1,e2,e3];exact⟨HB10.mono (by have:=HBe.o;omega),.inl ⟨ds,_,HQ.o,by have:=HL.o;omega,rfl,HD10⟩⟩
  |cons t l1=>
   have hn1:(0:Int)<(l1.length:Int)+1:=by omega
   have hl1:(t::l1).length<=100000:=by have:=HL.o;simp at this ⊢;omega
   have HC:=hZ (qED b s.size (b+1) (b+2) cs d1 (t::l1) wr HR.o HD.o hl1 HM1.o HM2.o (by omega) (by omega));have HE2:=hZ (qIh f1 t l1);clear hb1 ht1 hl1
   go_wp2_with fail
   clear c0 hn1;refine HC.o.mono ?_;rintro e w2 (⟨d2,l2,cs2,h1,rfl,hd2,hr2⟩|⟨z,h1,rfl,hr2⟩);rotate_left
   ·have HQ:Hid (qAE s.data.toList=.error (qKo s.size z,2)):=hZ (by rw[HT.o];unfold qC6;rw[HE.o,HE2.o,h1];rfl)
    have X2:=HX.o.only hr2 (fun j hj=>by have:=Hz5.o;omega);have HB2:Hid (Below B w w2):=hZ (hr2.below HB.o (by have:=HZ.o;have:=Hz5.o;omega) (fun k hk=>by have:=Hz5.o;omega));clear h1 hr2 HC HR HD HM1 HM2 HX HO HV HB
    go_wp2_with fail
    refine leaves_cons (f:=23) (args:=#[.pointer (some ⟨B,0,none⟩),.pointer (some ⟨B+1,0,none⟩),.pointer (some ⟨B+1+1,0,none⟩)]) (by simp) (by simp[go_sem]) ?_;refine(qIV B (B+1) (B+1+1) _ _ _ _ _ _ (qKo s.size z) [] _ X2.p X2.q X2.r (by omega) (by omega) (by omega)).mono ?_;rintro e u' w10 ⟨rfl,rfl,y1,y2,y3,hO10⟩;have e1:=y1.cell;have e2:=y2.cell;have e3:=y3.cell;have HB10:Below B w w10:=hO10.below HB2.o (by have:=X2.r.lt;omega) (fun k hk=>by omega);simp[Leaves,settle,results,Tryz.results13,go_sem,e1,e2,e3];exact⟨HB10.mono (by have:=HBe.o;omega),.inr ⟨_,2,HQ.o,rfl,.inl rfl⟩⟩
   obtain⟨y2,rfl,hy2⟩:=hd2;have hds:=HV.o.ds HO.o;obtain⟨av,cv,rfl, -,-⟩:=TSl.form hds;obtain⟨wd,hwd⟩:=eX w2.drew;have hBd:Below w2.heap.size w2 wd:=by rw[<-hwd];exact(Below.refl _ _).drew
   have hk2:=HR.o.kpx hr2.2;have hOd:qAf (fun k=>k=b) wr wd:=hr2.2.trans (qAf.of_below hBd);have Xd:=HX.o.only hOd (fun j hj=>by have:=Hz5.o;omega);have HOd:=hZ (hOd.own HO.o (fun k hk he=>by have:=(HO.o.lt k hk).1;omega));have HVd:=hZ ((HV.o.kp (HR.o.kpx hOd) (by decide) (by decide) (by decide)).snoc (d:=d2) (cs:=dcC d2 y2) ⟨y2,rfl,hy2.kp (KpX.of_below (X:=[]) hBd) (by simp) (by simp) (by simp)⟩);have HM1d:=hZ (HM1.o.only hOd (by omega));have HM2d:=hZ (HM2.o.only hOd (by omega));have HRd:Hid (Rdr wd b s.size l2 (dcC d2 y2)):=hZ (Rdr.below hr2.1 hBd);have HLd:Hid (LPar wd d2 y2):=hZ (hy2.kp (KpX.of_below (X:=[]) hBd) (by simp) (by simp) (by simp));have HBd:Hid (Below B w wd):=hZ (hOd.below HB.o (by have:=HZ.o;have:=Hz5.o;omega) (fun k hk=>by have:=Hz5.o;omega));have HZd:Hid (b+3<=wd.heap.size):=hZ (Nat.le_trans HZ.o hOd.size);have Hl2:=hZ (qFY h1);have HQ:Hid (qEZ (ts.length+1) ts=qHQ ds (qHQ [d2] (qEZ f1 l2))):=hZ (by rw[HE.o,HE2.o,h1]);obtain⟨vd,hbd,htd⟩:=HRd.o;have hfd:=hbd.frozen;clear h1 hr2 hy2 hds hBd hk2 hOd HC HO HV HX HM1 HM2 HB HZ HD HE HE2
   go_wp2_with fail
   have SD:(fun W=>W.cell? ⟨B,0,none⟩=some (.slice av ds.length cv)/\W.cell? ⟨b,2,none⟩=some (.int .i64 d2.kind)/\W.cell? ⟨b,3,none⟩=some (.string ⟨d2.name.toArray⟩)/\W.cell? ⟨b,4,none⟩=some (.int .i64 d2.at_)/\W.cell? ⟨b,5,none⟩=some (.bool d2.object)/\W.cell? ⟨b,6,none⟩=some (.bool d2.mixed)/\W.cell? ⟨b,7,none⟩=some (.bool d2.coin)/\W.cell? ⟨b,8,none⟩=some (.int .i64 d2.wear)/\W.cell? ⟨b,9,none⟩=some (.int .i64 d2.bind)/\W.cell? ⟨b,10,none⟩=some (.int .i64 d2.level)/\W.cell? ⟨b,11,none⟩=some (.int .i64 d2.time)/\W.cell? ⟨b,12,none⟩=some (.int .i64 d2.chance)/\W.cell? ⟨b,13,none⟩=some (.int .i64 d2.of_)/\W.cell? ⟨b,14,none⟩=some (y2.t)/\W.cell? ⟨b,15,none⟩=some (y2.g)/\W.cell? ⟨b,16,none⟩=some (y2.b)/\W.cell? ⟨b,17,none⟩=some (y2.r)/\W.cell? ⟨b,18,none⟩=some (y2.x)) wd:=⟨Xd.p.cell,hbd.cell 2,hbd.cell 3,hbd.cell 4,hbd.cell 5,hbd.cell 6,hbd.cell 7,hbd.cell 8,hbd.cell 9,hbd.cell 10,hbd.cell 11,hbd.cell 12,hbd.cell 13,hbd.cell 14,hbd.cell 15,hbd.cell 16,hbd.cell 17,hbd.cell 18⟩;refine qAr [7] (fun W=>W.cell? ⟨B,0,none⟩=some (.slice av ds.length cv)/\W.cell? ⟨b,2,none⟩=some (.int .i64 d2.kind)/\W.cell? ⟨b,3,none⟩=some (.string ⟨d2.name.toArray⟩)/\W.cell? ⟨b,4,none⟩=some (.int .i64 d2.at_)/\W.cell? ⟨b,5,none⟩=some (.bool d2.object)/\W.cell? ⟨b,6,none⟩=some (.bool d2.mixed)/\W.cell? ⟨b,7,none⟩=some (.bool d2.coin)/\W.cell? ⟨b,8,none⟩=some (.int .i64 d2.wear)/\W.cell? ⟨b,9,none⟩=some (.int .i64 d2.bind)/\W.cell? ⟨b,10,none⟩=some (.int .i64 d2.level)/\W.cell? ⟨b,11,none⟩=some (.int .i64 d2.time)/\W.cell? ⟨b,12,none⟩=some (.int .i64 d2.chance)/\W.cell? ⟨b,13,none⟩=some (.int .i64 d2.of_)/\W.cell? ⟨b,14,none⟩=some (y2.t)/\W.cell? ⟨b,15,none⟩=some (y2.g)/\W.cell? ⟨b,16,none⟩=some (y2.b)/\W.cell? ⟨b,17,none⟩=some (y2.r)/\W.cell? ⟨b,18,none⟩=some (y2.x)) (by kernel_rfl) (by rw[hwd];exact SD) (fun hHeld=> ?_);rw[hwd]at hHeld ⊢;clear hwd;refine qAc 0 63 (v:= ?_) rfl rfl (by kernel_rfl) (by kernel_rfl) (by kernel_rfl) (by kernel_rfl) (by kernel_rfl) (fun c a w h=>qBM 63 (by omega) _ c a w h) (by rfl) ?_ (by assumption) ?_;rotate_left
   ·(intro w hSw;go_simp;first|done|with_reducible rfl)
   simp only[sX1,sX2,sX3];refine qJc 1 64 (v:= ?_) rfl rfl (by kernel_rfl) (by kernel_rfl) (by kernel_rfl) (fun c a w h=>qBM 64 (by omega) _ c a w h) (by rfl) ?_ ?_;rotate_left
   ·(intro w;go_simp;first|done|with_reducible rfl)
   simp only[sX1,sX2,sX3];refine qJc 2 65 (v:= ?_) rfl rfl (by kernel_rfl) (by kernel_rfl) (by kernel_rfl) (fun c a w h=>qBM 65 (by omega) _ c a w h) (by rfl) ?_ ?_;rotate_left
   ·(intro w;go_simp;first|done|with_reducible rfl)
   simp only[sX1,sX2,sX3];refine qJc 3 66 (v:= ?_) rfl rfl (by kernel_rfl) (by kernel_rfl) (by kernel_rfl) (fun c a w h=>qBM 66 (by omega) _ c a w h) (by rfl) ?_ ?_;rotate_left
   ·(intro w;go_simp;first|done|with_reducible rfl)
   simp only[sX1,sX2,sX3];refine qAc 4 67 (v:= ?_) rfl rfl (by kernel_rfl) (by kernel_rfl) (by kernel_rfl) (by kernel_rfl) (by kernel_rfl) (fun c a w h=>qBM 67 (by omega) _ c a w h) (by rfl) ?_ (by assumption) ?_;rotate_left
   ·(intro w hSw;go_simp;first|done|with_reducible rfl)
   simp only[sX1,sX2,sX3];obtain⟨w3',hw3'⟩:∃W,wd.alloc (.cells #[.int .i64 d2.kind,.string ⟨d2.name.toArray⟩,.int .i64 d2.at_,.bool d2.object,.bool d2.mixed,.bool d2.coin,.int .i64 d2.wear,.int .i64 d2.bind,.int .i64 d2.level,.int .i64 d2.time,.int .i64 d2.chance,.int .i64 d2.of_,y2.t,y2.g,y2.b,y2.r,y2.x] 53)=W:=⟨_,rfl⟩;have hB3':Below wd.heap.size wd w3':=by rw[<-hw3'];exact qAa _ _
   have HW3:Hid (qAC w3' wd.heap.size 53 (dcC d2 y2)):=hZ (by rw[<-hw3'];exact qAC.new _ _ _);have HO3:=hZ ((qAf.of_below (S:=fun _=>False) hB3').own HOd.o (fun _ _ h=>h));have X3:=Xd.below hB3' (by have:=Xd.r.lt;omega);have hb3:=hbd.below hB3';have HV3:=hZ (HVd.o.kp (KpX.of_below (X:=[]) hB3') (by simp) (by simp) (by simp));have HM13:=hZ (HM1d.o.below hB3');have HM23:=hZ (HM2d.o.below hB3');have HR3:=hZ (HRd.o.below hB3');have HL3:Hid (LPar w3' d2 y2):=hZ (HLd.o.kp (KpX.of_below (X:=[]) hB3') (by simp) (by simp) (by simp));have HBf:=hZ (HBd.o.trans (hB3'.mono (by have:=HZd.o;have:=Hz5.o;omega)));have HZ3:Hid (b+3<=w3'.heap.size):=hZ (Nat.le_trans HZd.o hB3'.size);clear HOd Xd hbd HVd HM1d HM2d HRd HLd HBd htd hB3';refine eU 5 fun K hK=> ?_;go_simp;refine hK.out _ _ ⟨X3.p.cell,hb3.cell 2,hb3.cell 3,hb3.cell 4,hb3.cell 5,hb3.cell 6,hb3.cell 7,hb3.cell 8,hb3.cell 9,hb3.cell 10,hb3.cell 11,hb3.cell 12,hb3.cell 13,hb3.cell 14,hb3.cell 15,hb3.cell 16,hb3.cell 17,hb3.cell 18⟩ (fun hHeld=> ?_);clear hK K hw3' SD
   try simp only[Act.put,sX1,sX2,sX3]
   refine eU 6 fun K hK=> ?_;have hdl:ds.length<=1000000:=by have:=HL.o;have:=hsz;omega
   refine qBg (W0:=w3') qK7 rfl _ _ rfl (dcC d2 y2) wd.heap.size _ _ _ rfl rfl HW3.o rfl (qFB HL3.o) HO3.o (Below.refl _ _) HZ3.o (by omega) (by omega) ?_;intro g4 cap4 w4' HO4 HB4' HF4 hcap4 hcap4b;have hX4:=KpX.own (X:=[53]) HO3.o HF4.o (by simp);have X4:=X3.below HB4'.o (by have:=Hz5.o;omega);have hb4:RdB w4' b vd s.size (dcC d2 y2):=hX4 _ _ b (by decide) hb3;have HV4:=hZ (HV3.o.kp hX4 (by decide) (by decide) (by decide));have HM14:=hZ (qCo.below2 HM13.o HB4'.o (by omega));have HM24:=hZ (qCo.below2 HM23.o HB4'.o (by omega));have HR4:=hZ (HR3.o.kp hX4 (by decide) (by decide));have HL4:Hid (LPar w4' d2 y2):=hZ (HL3.o.kp hX4 (by decide) (by decide) (by decide));have HB4:=hZ (HBf.o.trans (HB4'.o.mono (by have:=Hz5.o;omega)));have HZ4:Hid (b+3<=w4'.heap.size):=hZ (Nat.le_trans HZ3.o HB4'.o.size);clear X3 hb3 HV3 HM13 HM23 HR3 HL3 HBf HZ3 hX4 HO3 HW3 HB4' HF4;refine hK.out _ _ ⟨X4.p.cell,hb4.cell 2,hb4.cell 3,hb4.cell 4,hb4.cell 5,hb4.cell 6,hb4.cell 7,hb4.cell 8,hb4.cell 9,hb4.cell 10,hb4.cell 11,hb4.cell 12,hb4.cell 13,hb4.cell 14,hb4.cell 15,hb4.cell 16,hb4.cell 17,hb4.cell 18⟩ (fun hHeld=> ?_);clear hK K
   try simp only[Act.put,sX1,sX2,sX3]
   obtain⟨w5',hw5'⟩:∃W,w4'.setCell ⟨B,0,none⟩ (.slice (some ⟨g4,0,none⟩) (ds.length+1) cap4)=W:=⟨_,rfl⟩;have X5:Bx3 w5' B (.slice (some ⟨g4,0,none⟩) (ds.length+1) cap4) 0 0:=by rw[<-hw5'];exact X4.setp _
   have hO5:qAf (fun j=>j=B\/j=B+1\/j=B+1+1) w4' w5':=by rw[<-hw5'];exact(qAf.refl (fun j=>j=B\/j=B+1\/j=B+1+1) w4').set (p:=⟨B,0,none⟩) (.inl rfl) _
   have hX5:=X4.kp hO5;have HO5:=hZ (qBC HO4.o hX5 (by decide));have HV5:=hZ (HV4.o.kp hX5 (by decide) (by decide) (by decide));have HM15:=hZ (HM14.o.only hO5 (by have:=Hz5.o;omega));have HM25:=hZ (HM24.o.only hO5 (by have:=Hz5.o;omega));have HR5:=hZ (HR4.o.kp hX5 (by decide) (by decide));have HL5:Hid (LPar w5' d2 y2):=hZ (HL4.o.kp hX5 (by decide) (by decide) (by decide));have HB5:Hid (Below B w w5'):=hZ (hO5.below HB4.o (by have:=HZ4.o;have:=Hz5.o;omega) (fun k hk=>by omega));have HZ5:Hid (b+3<=w5'.heap.size):=hZ (Nat.le_trans HZ4.o hO5.size);have p1:=X4.p.cell;have p2:=X4.p.frozen;clear HV4 HM14 HM24 HR4 HL4 HB4 HZ4 HO4 hO5 hX5 hb4 X4;refine lU 7 fun K hK=> ?_;go_simp;refine hK.out _ _ ?_;clear hK K
   try simp only[Act.put,sX1,sX2,sX3]
   refine dU ?_;clear hHeld;clear hw5' p1 p2
   go_wp2_with fail
   go_roundw
   case rel=>
    obtain⟨f2,rfl⟩:∃f2,f1=f2+1:=⟨f1-1,by have:=HL.o.1;simp at this;omega⟩;have hla:(ds++[d2]).length=ds.length+1:=by simp
    refine⟨ds++[d2],css++[dcC d2 y2],_,f2,l2,_,d2,hZ (by rw[HQ.o,qGT]),hZ (by have:=HL.o;have:=Hl2.o;simp at *;omega),HR5,hZ ⟨y2,rfl,HL5.o⟩,HM15,HM25,hZ X5,hZ ?_,HV5,HB5,HZ5⟩;have h9:=HO5.o;rw[hla];simpa using h9
   case measure=>
    rw[HR5.o.len,HR.o.len];have:=Hl2.o;simp at this ⊢;omega
def QD(w:World)(bd:Nat)(d:Dc)(y:Ls):Prop:=w.heap[bd]? =some (.cells (dcC d y).toArray 35 (0,0))
theorem QD.lt{w:World}{bd:Nat}{d:Dc}{y:Ls}(h:QD w bd d y):bd<w.heap.size:=qAn h
theorem QD.cell{w:World}{bd:Nat}{d:Dc}{y:Ls}(h:QD w bd d y)(j:Nat):w.cell? ⟨bd,j,none⟩=(dcC d y)[j]? :=by
 rw[cell_of_row w bd j _ _ (0,0) h];simp
theorem QD.frozen{w:World}{bd:Nat}{d:Dc}{y:Ls}(h:QD w bd d y)(j:Nat):w.frozen? ⟨bd,j,none⟩=false:=by
 unfold QD at h;simp[World.frozen?,h]
abbrev LRef:=qJW 96 31
structure QE(w:World)(b bd:Nat)(s:ByteArray)(T z:List Tok)(bad:Bool)(d:Dc):Prop where
 q:QS w b s T z bad
 d:∃y,QD w bd d y/\LRef w d y
theorem QE.ok{w w':World}{b bd:Nat}{s:ByteArray}{T z z':List Tok}{bad bad':Bool}{d:Dc}(h:QE w b bd s T z bad d)(hq:QOk w w' b s T z' bad'):QE w' b bd s T z' bad' d:=by
 have hk:=h.q.kpx hq.2;obtain⟨y,h1,h2⟩:=h.d;exact⟨hq.1,y,hk _ _ bd (by decide) h1,h2.kp hk (by decide) (by decide) (by decide)⟩
theorem QE.put{w:World}{b bd:Nat}{s:ByteArray}{T z:List Tok}{bad:Bool}{d d':Dc}{y y':Ls}(h:QS w b s T z bad)(hy:QD w bd d y)(j:Nat)(u:Value)(e1:(dcC d y).set j u=dcC d' y')(e2:LRef w d' y'):QE (w.setCell ⟨bd,j,none⟩ u) b bd s T z bad d':=by
 have hk:KpX [35] w (w.setCell ⟨bd,j,none⟩ u):=KpX.set hy (by simp) u;refine⟨h.kp hk (by decide) (by decide),y',?_,e2.kp hk (by decide) (by decide) (by decide)⟩;unfold QD at hy ⊢;simp[World.setCell,Array.getElem?_modify,hy,<-e1]
theorem LRef.same{w:World}{d d':Dc}{y:Ls}(h:LRef w d y)(h1:d'.take=d.take)(h2:d'.give=d.give)(h3:d'.back=d.back)(h4:d'.rows=d.rows)(h5:d'.brs=d.brs):LRef w d' y:=
 ⟨h1▸h.t,h2▸h.g,h3▸h.b,h4▸h.r,h5▸h.x⟩
def S2(b bd:Nat)(k:Nat):Prop:=k=b\/k=bd
theorem QOk.two{w w':World}{b:Nat}{s:ByteArray}{T z:List Tok}{bad:Bool}(h:QOk w w' b s T z bad)(bd:Nat):qAf (S2 b bd) w w':=h.2.mono (fun k hk=> .inl hk)
theorem qBo{w w':World}{b bd:Nat}(h:qAf (S2 b bd) w w')(j:Nat)(u:Value):qAf (S2 b bd) w (w'.setCell ⟨bd,j,none⟩ u):=h.set (p:=⟨bd,j,none⟩) (.inr rfl) u
theorem QR.map{α β:Type}{p:List Tok->Rd α}{q:List Tok->Rd β}{bad bd':Bool}{z z':List Tok}{u:Option α}(g:α->β)(hq:∀l,q l=match p l with|.error r=> .error r|.ok (n,r)=> .ok (g n,r))(h:QR p bad z u bd' z'):QR q bad z (u.map g) bd' z':=by
 unfold QR at h ⊢;rw[hq];cases bad with
 |true=>simp only[if_true]at h ⊢;exact⟨h.1,h.2.1,by rw[h.2.2];rfl⟩
 |false=>
  simp only[Bool.false_eq_true,if_false]at h ⊢;cases hp:p z with
  |error r=>rw[hp]at h;exact⟨h.1,h.2.1,by rw[h.2.2];rfl⟩
  |ok a=>rw[hp]at h;exact⟨by rw[h.1];rfl,h.2⟩
theorem QR.seq{α β γ:Type}{p:List Tok->Rd α}{q:List Tok->Rd β}{t:List Tok->Rd γ}{bad bd1 bd2:Bool}{z z1 z2:List Tok}{u:Option α}{u':Option β}(g:α->β->γ)
 (ht:∀l,t l=match p l with|.error r=> .error r|.ok (n,r)=>match q r with|.error r2=> .error r2|.ok (m,r2)=> .ok (g n m,r2))
 (h:QR p bad z u bd1 z1)(h2:QR q bd1 z1 u' bd2 z2):QR t bad z (u.bind fun x=>u'.map (g x)) bd2 z2:=by
 unfold QR at h h2 ⊢;rw[ht];cases bad with
 |true=>
  simp only[if_true]at h ⊢;obtain⟨rfl,rfl,rfl⟩:=h;simp only[if_true]at h2;exact⟨h2.1,h2.2.1,rfl⟩
 |false=>
  simp only[Bool.false_eq_true,if_false]at h ⊢;cases hp:p z with
  |error r=>
   rw[hp]at h;obtain⟨rfl,rfl,rfl⟩:=h;simp only[if_true]at h2;exact⟨h2.1,h2.2.1,rfl⟩
  |ok a=>
   rw[hp]at h;obtain⟨rfl,rfl,rfl⟩:=h;simp only[Bool.false_eq_true,if_false]at h2 ⊢;cases hq:q a.2 with
   |error r=>rw[hq]at h2;obtain⟨rfl,rfl,rfl⟩:=h2;exact⟨rfl,rfl,rfl⟩
   |ok c=>rw[hq]at h2;obtain⟨rfl,rfl,rfl⟩:=h2;exact⟨rfl,rfl,rfl⟩
theorem QR.tok{x:Bs}{k:Int}{bad bd':Bool}{z z':List Tok}{u:Option Unit}(hx:x≠[])(hz:isX x z=isT k x z)(h:QR (pX x) bad z u bd' z'):∃u',(u':Option Tok).isSome=u.isSome/\QR (qAL k x) bad z u' bd' z':=by
 unfold QR at h ⊢;cases bad with
 |true=>
  simp only[if_true]at h ⊢;obtain⟨rfl,rfl,rfl⟩:=h;exact⟨none,rfl,rfl,rfl,rfl⟩
 |false=>
  simp only[Bool.false_eq_true,if_false]at h ⊢;rw[qEJ,hz]at h;rw[qFl];cases hi:isT k x z with
  |false=>
   rw[hi]at h;obtain⟨rfl,rfl,rfl⟩:=h;exact⟨none,rfl,rfl,rfl,rfl⟩
  |true=>
   rw[hi]at h;cases z with
   |nil=>cases hi
   |cons t r=>
    obtain⟨rfl,rfl,rfl⟩:=h;exact⟨some t,rfl,rfl,rfl,rfl⟩
def onB(seen:List Bs)(bad:Bool)(x:Bs)(z:List Tok):Bool:= !bad && isX x z && !seen.contains x
theorem qBE(b:Nat)(s:ByteArray)(T z:List Tok)(bad:Bool)(x:Bs)(v:Value)(seen:List Bs)(w:World)(hn:onB seen bad x z=false)(h:QS w b s T z bad)(hv:qB2 w v seen)(hl:seen.length<=1000000):
 Calls Tryz.prog 98 #[.pointer (some ⟨b,0,none⟩),.string ⟨x.toArray⟩,v] w fun e w'=>e=.returned (.bool false)/\QOk w w' b s T z (bad||isX x z):=by
 refine(qG2 b s T z bad x v seen w h hv hl).mono ?_;rintro e w' (⟨rfl,h1,h2,h3,-⟩|⟨rfl,⟨h1,h2⟩|⟨h1,h2,h3,h4⟩⟩)
 ·exact absurd hn (by simp[onB,h1,h2,h3])
 ·refine⟨rfl,?_⟩
  have:(bad||isX x z)=bad:=by rcases h2 with h2|h2<;>simp[h2]
  rw[this];exact h1
 ·refine⟨rfl,?_⟩
  rw[h2,Bool.or_true];exact h4
theorem qBc(b:Nat)(s:ByteArray)(T z:List Tok)(bad:Bool)(x:Bs)(v:Value)(seen:List Bs)(w:World)(hn:onB seen bad x z=true)(h:QS w b s T z bad)(hv:qB2 w v seen)(hl:seen.length<=1000000):
 Calls Tryz.prog 98 #[.pointer (some ⟨b,0,none⟩),.string ⟨x.toArray⟩,v] w fun e w'=>e=.returned (.bool true)/\QOk w w' b s T (z.drop 1) false:=by
 have hb:bad=false/\isX x z=true/\x∉seen:=by
  simp only[onB,Bool.and_eq_true,Bool.not_eq_true',List.contains_eq_mem,decide_eq_false_iff_not]at hn;exact⟨hn.1.1,hn.1.2,hn.2⟩
 obtain⟨rfl,h5,h6⟩:=hb;refine(qG2 b s T z false x v seen w h hv hl).mono ?_;rintro e w' (⟨rfl,h1,h2,h3,h4⟩|⟨rfl,⟨h1,h2⟩|⟨h1,h2,h3,h4⟩⟩)
 ·exact⟨rfl,h4⟩
 ·rcases h2 with h2|h2
  ·cases h2
  ·rw[h5]at h2;cases h2
 ·exact absurd h3 h6
def qKd(known:List Fg)(b bd:Nat)(s:ByteArray)(T:List Tok)(seen:List Bs)(bad:Bool)(z:List Tok)(d:Dc)(w:World)(e:Ending)(w':World):Prop:=
 qAf (S2 b bd) w w'/\
 ((∃f,f∈known/\onB seen bad f.word z=true/\e=.returned (.string ⟨f.word.toArray⟩)/\∃u z' bad' d',QR (pFg f d) false (z.drop 1) u bad' z'/\(∀x,u=some x->d'=x)/\QE w' b bd s T z' bad' d')\/
 ((∀f∈known,onB seen bad f.word z=false)/\e=.returned (.string ⟨#[]⟩)/\QE w' b bd s T z (bad||known.any (fun f=>isX f.word z)) d))
structure QN(w w':World)(b bd:Nat)(s:ByteArray)(T z:List Tok)(bad:Bool)(d:Dc)(v:Value)(seen:List Bs):Prop where
 e:QE w' b bd s T z bad d
 s:qB2 w' v seen
 o:qAf (S2 b bd) w w'
theorem QN.step{w w' w2:World}{b bd:Nat}{s:ByteArray}{T z z':List Tok}{bad bad':Bool}{d:Dc}{v:Value}{seen:List Bs}(h:QN w w' b bd s T z bad d v seen)(hq:QOk w' w2 b s T z' bad'):QN w w2 b bd s T z' bad' d v seen:=
 ⟨h.e.ok hq,h.s.kp (h.e.q.kpx hq.2) (by decide),h.o.trans (hq.two bd)⟩
theorem qKw{x y:Bs}{z:List Tok}(h1:isX x z=true)(h2:isX y z=true):x=y:=by
 cases z with
 |nil=>cases h1
 |cons t r=>
  have a:t.text=x:=by simpa[isX]using h1
  have c:t.text=y:=by simpa[isX]using h2
  rw[<-a,c]
def QI(K:List Bs)(seen:List Bs)(bad:Bool)(z:List Tok)(c:Bool):Prop:=c=(bad||K.any (fun x=>isX x z))/\∀x∈K,onB seen bad x z=false
theorem QI.nil{seen:List Bs}{bad:Bool}{z:List Tok}:QI [] seen bad z bad:=⟨by simp,by simp⟩
theorem QI.yes{K seen:List Bs}{bad:Bool}{z:List Tok}{c:Bool}{x:Bs}(h:QI K seen bad z c)(hx:onB seen c x z=true):onB seen bad x z=true:=by
 obtain⟨rfl,h2⟩:=h;simp only[onB,Bool.and_eq_true,Bool.not_eq_true',Bool.or_eq_false_iff]at hx ⊢;exact⟨⟨hx.1.1.1,hx.1.2⟩,hx.2⟩
theorem QI.step{K seen:List Bs}{bad:Bool}{z:List Tok}{c:Bool}{x:Bs}(h:QI K seen bad z c)(hk:x∉K)(hx:onB seen c x z=false):QI (K++[x]) seen bad z (c||isX x z):=by
 obtain⟨rfl,h2⟩:=h;refine⟨by simp[Bool.or_assoc],fun y hy=> ?_⟩;rcases List.mem_append.1 hy with hy|hy
 ·exact h2 y hy
 ·rw[List.mem_singleton.1 hy]
  cases hi:isX x z with
  |false=>simp[onB,hi]
  |true=>
   have:K.any (fun x=>isX x z)=false:=by
    rw[List.any_eq_false];intro q hq hqz;exact hk (qKw hi hqz▸hq)
   rw[this,Bool.or_false]at hx;exact hx
theorem qIG{a b:Fg}(h:a.word=b.word):a=b:=by
 have:=qGK a b;rw[h]at this;simpa using this.symm
theorem qJk{x:Fg}{d d':Dc}{l l':List Tok}(h:pFg x d l=.ok (d',l')):d'.kind=d.kind:=by
 have one:∀{f:Int->Dc} {l:List Tok},(∀n,(f n).kind=d.kind)->(match qAP l with|.error z=>(Except.error z:Rd Dc)|.ok (n,r)=>(.ok (f n,r):Rd Dc))=.ok (d',l')->d'.kind=d.kind:=by
  intro f l hf h;cases h1:qAP l with
  |error z=>rw[h1]at h;cases h
  |ok y=>rw[h1]at h;cases h;exact hf _
 have two:∀{f:List Pr->Dc} {l:List Tok},(∀n,(f n).kind=d.kind)->(match qAw l with|.error z=>(Except.error z:Rd Dc)|.ok (n,r)=>(.ok (f n,r):Rd Dc))=.ok (d',l')->d'.kind=d.kind:=by
  intro f l hf h;cases h1:qAw l with
  |error z=>rw[h1]at h;cases h
  |ok y=>rw[h1]at h;cases h;exact hf _
 cases x with
 |object=>cases h;rfl
 |mixed=>cases h;rfl
 |coin=>cases h;rfl
 |wear=>exact one (f:=fun n=>{ d with wear:=n }) (fun _=>rfl) h
 |level=>exact one (f:=fun n=>{ d with level:=n }) (fun _=>rfl) h
 |time=>exact one (f:=fun n=>{ d with time:=n }) (fun _=>rfl) h
 |bind=>
  unfold pFg at h;simp only[]at h
  split at h
  ·cases h;rfl
  ·split at h
   ·cases h;rfl
   ·cases h
 |chance=>
  unfold pFg at h;simp only[]at h;cases h1:qAP l with
  |error z=>rw[h1]at h;cases h
  |ok y=>
   rw[h1]at h;simp only[]at h;cases h2:qAL 0 wOf y.2 with
   |error z=>rw[h2]at h;cases h
   |ok y2=>
    rw[h2]at h;simp only[]at h;cases h3:qAP y2.2 with
    |error z=>rw[h3]at h;cases h
    |ok y3=>rw[h3]at h;cases h;rfl
 |take=>exact two (f:=fun n=>{ d with take:=n }) (fun _=>rfl) h
 |give=>exact two (f:=fun n=>{ d with give:=n }) (fun _=>rfl) h
 |back=>exact two (f:=fun n=>{ d with back:=n }) (fun _=>rfl) h
theorem qIk{seen:List Bs}{x:Bs}{z:List Tok}:onB seen false x z=true ↔ isX x z=true/\x∉seen:=by
 simp[onB]
theorem qIi{known seenF:List Fg}{sd:List Bs}{d:Dc}{z:List Tok}{f:Fg}(k:Nat)(hX:isX f.word z=isT 0 f.word z)(hs:∀f∈known,f.word∈sd ↔ f∈seenF)(hf:f∈known)(h:onB sd false f.word z=true):
 qAT known (k+1) seenF d z=match pFg f d (z.drop 1)with|.error r=> .error r|.ok (d',l')=>qAT known k (f::seenF) d' l':=by
 obtain⟨h1,h2⟩:=qIk.1 h;cases z with
 |nil=>cases h1
 |cons t r=>
  have ht:t.text=f.word:=by simpa[isX]using h1
  have hk:t.is 0 []=true:=by
   rw[hX]at h1;simp only[isT,Tok.is,Bool.and_eq_true]at h1 ⊢;exact⟨h1.1,by simp⟩
  have hfind:known.find? (fun x=>t.text==x.word)=some f:=by
   cases hq:known.find? (fun x=>t.text==x.word)with
   |none=>
    have:=List.find?_eq_none.1 hq f hf;simp[ht]at this
   |some y=>
    have:=List.find?_some hq;have e:f.word=y.word:=by rw[<-ht];simpa using this
    rw[qIG e]
  have hns:seenF.contains f=false:=by
   simp only[List.contains_eq_mem,decide_eq_false_iff_not];exact fun hm=>h2 ((hs f hf).2 hm)
  rw[qAT];simp only[hk,if_true,hfind,hns,Bool.false_eq_true,if_false];rfl
theorem qIj{known seenF:List Fg}{sd:List Bs}{d:Dc}{z:List Tok}(k:Nat)(hX:∀f∈known,isX f.word z=isT 0 f.word z)(hS:isX [59] z=isT 2 [59] z)(hs:∀f∈known,f.word∈sd ↔ f∈seenF)(h:∀f∈known,onB sd false f.word z=false):
 (qAT known (k+1) seenF d z=.ok (d,z)/\known.any (fun f=>isX f.word z)=false)\/(qAT known (k+1) seenF d z=.error z/\(known.any (fun f=>isX f.word z)=true\/isX [59] z=false)):=by
 cases z with
 |nil=>exact .inl ⟨by rw[qAT],by rw[List.any_eq_false];intro f _ h;cases h⟩
 |cons t r=>
  rw[qAT];by_cases hk:t.is 0 []=true
  ·refine .inr ?_
   simp only[hk,if_true];have hS2:isX [59] (t::r)=false:=by
    rw[hS];simp only[isT,Tok.is,Bool.and_eq_true,beq_iff_eq]at hk ⊢;rw[hk.1];rfl
   cases hq:known.find? (fun x=>t.text==x.word)with
   |none=>exact⟨rfl,.inr hS2⟩
   |some y=>
    have hy:=List.mem_of_find?_eq_some hq;have he:=List.find?_some hq;have hx:isX y.word (t::r)=true:=by simpa[isX]using he
    have hm:y.word∈sd:=by
     have:=h y hy;simp only[onB,hx,Bool.not_false,Bool.true_and,Bool.not_eq_false']at this;simpa using this
    have hc:seenF.contains y=true:=by simpa using (hs y hy).1 hm
    simp only[hc,if_true];exact⟨trivial,.inl (by rw[List.any_eq_true];exact⟨y,hy,hx⟩)⟩
  ·refine .inl ?_
   simp only[hk,if_false];refine⟨by simp,?_⟩;rw[List.any_eq_false];intro f hf hx;rw[hX f hf]at hx;simp only[isT,Tok.is,Bool.and_eq_true]at hx hk;exact hk ⟨hx.1,by simp⟩
def qBP(k:Int):List Fg:=if k=0 then qCs else qBT
def FR(bad:Bool)(z:List Tok)(d:Dc)(u:Option Dc)(bad':Bool)(z':List Tok):Prop:=
 if bad then bad'=true/\z'=z/\u=none else
 match qAT (qBP d.kind) (z.length+1) [] d z with
 |.ok (x,r)=>u=some x/\bad'=false/\z'=r
 |.error r=>u=none/\z'=r/\(bad'=true\/isX [59] r=false)
def FI(bad:Bool)(z:List Tok)(d0:Dc)(again:Bool)(z1:List Tok)(bd:Bool)(d:Dc)(sd:List Bs):Prop:=
 if again && !bd then bad=false/\d.kind=d0.kind/\∃f seenF,z1.length<=f/\qAT (qBP d0.kind) (z.length+1) [] d0 z=qAT (qBP d0.kind) (f+1) seenF d z1/\∀x∈qBP d0.kind,x.word∈sd ↔ x∈seenF
 else ∃u,FR bad z d0 u bd z1/\∀x,u=some x->d=x
theorem FI.start(bad:Bool)(z:List Tok)(d:Dc):FI bad z d true z bad d []:=by
 unfold FI;cases bad with
 |false=>exact⟨rfl,rfl,z.length,[],Nat.le_refl _,rfl,by simp⟩
 |true=>exact⟨none,⟨rfl,rfl,rfl⟩,nofun⟩
theorem FI.none{bad:Bool}{z z1:List Tok}{d0 d:Dc}{sd sd':List Bs}(h:FI bad z d0 true z1 false d sd)(hX:∀f∈qBP d0.kind,isX f.word z1=isT 0 f.word z1)(hS:isX [59] z1=isT 2 [59] z1)(hn:∀f∈qBP d0.kind,onB sd false f.word z1=false):
 FI bad z d0 false z1 (false||(qBP d0.kind).any (fun f=>isX f.word z1)) d sd':=by
 obtain⟨rfl,hk,f,seenF,hf,he,hs⟩:=h;unfold FI;simp only[Bool.false_and,Bool.false_eq_true,if_false,Bool.false_or];rcases qIj (d:=d) f hX hS hs hn with ⟨h1,h2⟩|⟨h1,h2⟩
 ·refine⟨some d,?_,fun x hx=>by injection hx⟩
  unfold FR;rw[he,h1];exact⟨rfl,h2,rfl⟩
 ·refine⟨Option.none,?_,nofun⟩
  unfold FR;rw[he,h1];exact⟨rfl,rfl,h2⟩
theorem FI.some{bad:Bool}{z z1 z2:List Tok}{d0 d d2:Dc}{sd:List Bs}{f:Fg}{u:Option Dc}{bd:Bool}(h:FI bad z d0 true z1 false d sd)(hX:isX f.word z1=isT 0 f.word z1)(hf:f∈qBP d0.kind)(hon:onB sd false f.word z1=true)
 (hq:QR (pFg f d) false (z1.drop 1) u bd z2)(hu:∀x,u=some x->d2=x):FI bad z d0 true z2 bd d2 (sd++[f.word])/\(bd=false->z2.length<z1.length):=by
 obtain⟨rfl,hk,g,seenF,hg,he,hs⟩:=h;have e2:=qIi (d:=d) g hX hs hf hon;have hz1:0<z1.length:=by
  cases z1 with
  |nil=>have:=(qIk.1 hon).1;cases this
  |cons _ _=>simp
 unfold QR at hq;simp only[Bool.false_eq_true,if_false]at hq;cases hp:pFg f d (z1.drop 1)with
 |error r=>
  rw[hp]at hq e2;obtain⟨rfl,rfl,rfl⟩:=hq;refine⟨⟨Option.none,?_,nofun⟩,nofun⟩;unfold FR;rw[he,e2];exact⟨rfl,rfl,.inl rfl⟩
 |ok a=>
  rw[hp]at hq e2;obtain⟨rfl,rfl,rfl⟩:=hq;have hd:=hu _ rfl;subst hd;have hl:=qGq hp;have hl1:a.2.length<z1.length:=by simp at hl;omega
  obtain⟨g',rfl⟩:∃g',g=g'+1:=⟨g-1,by omega⟩;refine⟨⟨rfl,(qJk hp).trans hk,g',f::seenF,by omega,by rw[he,e2],fun x hx=> ?_⟩,fun _=>hl1⟩;rw[List.mem_append,List.mem_singleton,List.mem_cons,hs x hx];constructor
  ·rintro(h|h)
   ·exact .inr h
   ·exact .inl (qIG h)
  ·rintro(h|h)
   ·exact .inr (by rw[h])
   ·exact .inl h
theorem qCX(k:Int):∀f∈qBP k,f.word∈askW:=by
 intro f hf;cases f<;>decide
end Go.Proofs.YtpmnbcdjoomgcaaGreatDoor
