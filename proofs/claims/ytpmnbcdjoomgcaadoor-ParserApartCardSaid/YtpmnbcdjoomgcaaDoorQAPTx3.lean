/- The reference's text: the parts of a declaration. -/
import Derived.Test.YtpmnbcdjoomgcaaDoorQAPGe3
import Derived.Test.YtpmnbcdjoomgcaaDoorQARefWalks
import Derived.Test.YtpmnbcdjoomgcaaDoorQAPOpts
import Derived.Test.YtpmnbcdjoomgcaaDoorQAPPut3
import Derived.Deep.CutRange
import Derived.Deep.CutBlock
set_option linter.unusedVariables false
set_option linter.unusedSimpArgs false
set_option maxHeartbeats 4000000
set_option maxRecDepth 100000
namespace Go.Proofs.YtpmnbcdjoomgcaaDoor
open Go.RowKit
theorem qAh(a b:Bs):(⟨a.toArray⟩:ByteArray)++⟨b.toArray⟩=⟨(a++b).toArray⟩:=by
 apply ByteArray.ext;rw[ByteArray.data_append,List.append_toArray]
theorem qAS(n:Int)(h:qAj n=true)(w:World):Calls Tryd.prog 84 #[.int .i64 n] w fun e w'=>e=.returned (.string ⟨(qAm n).toArray⟩)/\w'=w:=by
 have h1:=qAV.1 h;have h2:=qGA n.toNat w (by omega);rw[show((n.toNat:Nat):Int)=n by omega]at h2;exact h2
theorem qGL(p:Pr):∀(l:List Pr) (b:Bool),prL b (l++[p])=prL b l++((if b|| !l.isEmpty then ([44]:Bs)else [])++32::qAm p.n++32::p.name)
 |[],b=>by cases b<;>simp[prL]
 |q::l,b=>by
  rw[List.cons_append,prL,qGL p l true,prL];simp
theorem qD0(x:Bs)(f:Bool)(w:World)(hx:x.length<=1000):
 Calls Tryd.prog 82 #[.string ⟨x.toArray⟩,.bool f] w fun e w'=>e=.returned (.string ⟨(qB0 x f).toArray⟩)/\w'=w:=by
 have hp:Hid (qB0 x f=if f then 32::x else []):=hZ rfl
 go_enter Tryd.func82,Tryd.ntmps82
 cases f
 ·go_wp2_with fail
  go_ret;exact⟨by rw[hp.o];rfl,rfl⟩
 ·go_wp2_with fail
  go_ret;exact⟨by rw[hp.o];exact congrArg (fun s=>Ending.returned (.string s)) (qAh [32] x),rfl⟩
theorem qCp(x:Bs)(n:Int)(h:qAj n=true)(w:World)(hx:x.length<=1000):
 Calls Tryd.prog 83 #[.string ⟨x.toArray⟩,.int .i64 n] w fun e w'=>e=.returned (.string ⟨(qAz x n).toArray⟩)/\w'=w:=by
 have hp:Hid (qAz x n=if n=0 then []else 32::x++32::qAm n):=hZ rfl;have HN:=hZ (qAS n h w);have hl:=qAi h
 go_enter Tryd.func83,Tryd.ntmps83
 by_cases h0:n=0
 ·have q:(n==0)=true:=by simp[h0]
  clear hl
  go_wp2_with fail
  go_ret;exact⟨by rw[hp.o,if_pos h0];rfl,rfl⟩
 ·have q:(n==0)=false:=by simp[h0]
  have Hp:Hid (qAz x n=32::x++32::qAm n):=hZ (by rw[hp.o,if_neg h0]);clear h0 hp
  go_wp2_with fail
  refine HN.o.mono ?_;rintro e w' ⟨rfl,rfl⟩;obtain⟨t,ht⟩:=eX (qAm n);rw[ht]at Hp hl ⊢
  go_wp2_with fail
  go_ret;refine⟨?_,rfl⟩;rw[Hp.o];refine congrArg (fun s=>Ending.returned (.string s)) ?_;have e1:=qAh [32] x;have e2:=qAh (32::x) [32];have e3:=qAh (32::x++[32]) t;rw[show([32]++x:Bs)=32::x from rfl]at e1
  show(⟨([32]:Bs).toArray⟩:ByteArray)++⟨x.toArray⟩++⟨([32]:Bs).toArray⟩++⟨t.toArray⟩=_
  rw[e1,e2,e3];simp
def lsT(x:Bs)(l:List Pr):Bs:=if l.isEmpty then []else x++prL false l
theorem qBy(x:Bs)(v:Value)(l:List Pr)(w:World)(h:qAD 74 w v l)(hx:x.length<=1000)(hl:l.length<=10)(ho:okL l=true)(hn:∀p∈l,p.name.length<=4):
 Calls Tryd.prog 85 #[.string ⟨x.toArray⟩,v] w fun e w'=>e=.returned (.string ⟨(lsT x l).toArray⟩)/\Below w.heap.size w w':=by
 obtain⟨a,cap,rfl, -,-⟩:=TSl.form h;have HA:=hZ h;obtain⟨n,hnn⟩:=eX l.length;rw[hnn];rw[hnn]at hl;have Hn:=hZ hnn;have HM:=hZ hn;have HK:=hZ ho;clear h hnn hn ho
 go_enter Tryd.func85,Tryd.ntmps85
 go_wp2_with fail
 go_loopw [5,6] (fun sv iv wr=>∃(k:Nat) (t:Bs),k<=n/\iv=.int .i64 k/\sv=.string ⟨t.toArray⟩/\Hid (t=x++prL false (l.take k))/\t.length<=1000+40*k/\Hid (Below w.heap.size w wr)) (fun _ iv _=>n-(intOf iv).toNat)
 case atStart=>exact⟨0,x,by omega,rfl,rfl,hZ (by simp[prL]),by omega,hZ (Below.refl _ _)⟩
 case round=>
  obtain⟨k,t,hk,rfl,rfl,HT,htl,HB⟩:=hrel;by_cases hlt:k<n
  ·have h1:k<l.length:=by have:=Hn.o;omega
   obtain⟨g,o1,cp,hv,y0,y1,y2⟩:=qAD.nth (HA.o.kp (KpX.of_below (X:=[]) HB.o) (by simp)) k h1;injection hv with hv hq1 hv2;subst hv hv2;obtain⟨p,hp⟩:=eX (l[k]);rw[hp]at y0 y1 y2;have hpn:p.name.length<=4:=by have:=HM.o l[k] (List.getElem_mem h1);rw[hp]at this;exact this
   have hpo:qAj p.n=true:=by
    have:=HK.o;unfold okL at this;have:=List.all_eq_true.1 this l[k] (List.getElem_mem h1);rw[hp]at this;exact this
   have hnl:=qAi hpo;obtain⟨u,hu⟩:=eX (qAm p.n);have HT2:Hid (prL false (l.take (k+1))=prL false (l.take k)++((if 0<k then ([44]:Bs)else [])++32::u++32::p.name)):=hZ (by
    rw[List.take_succ_eq_append_getElem h1,qGL,hp,hu];have:(!(l.take k).isEmpty)=decide (0<k):=by
     cases k with
     |zero=>simp
     |succ k=>cases l with
      |nil=>simp at h1
      |cons a l=>simp
    simp only[Bool.false_or,this,decide_eq_true_eq])
   obtain⟨wd,hwd⟩:=eX wr.drew;have hBd:Below wr.heap.size wr wd:=by rw[<-hwd];exact qAc _
   have HBd:=hZ (HB.o.trans (hBd.mono HB.o.size));have HN:=hZ (qAS p.n hpo wd);rw[hu]at HN hnl;have hn0:(0:Int)<=(k:Int):=by omega
   have hn1:(k:Int)<(n:Int):=by omega
   clear hBd HB hp hq1 h1 y2 hpo hu;have hk0:(0:Int)<(k:Int)\/ ¬(0:Int)<(k:Int):=by omega
   rcases hk0 with hk0|hk0
   ·skip
    have s1:¬9223372036854775807<t.length+1+1:=by omega
    have s2:¬9223372036854775807<t.length+1+1+u.length:=by omega
    have s3:¬9223372036854775807<t.length+1+1+u.length+1:=by omega
    have s4:¬9223372036854775807<t.length+1+1+u.length+1+p.name.length:=by omega
    go_wp2_with fail
    refine qAs [16] (fun W=>W.cell? ⟨g,o1+k*3,none⟩=some (.int .i64 p.n)/\W.cell? ⟨g,o1+k*3+1,none⟩=some (.string ⟨p.name.toArray⟩)) (by kernel_rfl) (⟨y0,y1⟩) (fun hHeld=> ?_);rw[hwd]at hHeld ⊢;clear hwd y0 y1;refine pU 0 18 ?_;refine pU 1 19 ?_;refine pU 2 20 ?_;refine pU 3 21 ?_;refine pU 4 22 ?_;refine pU 5 23 ?_;refine qAb 6 24 (v:= ?_) rfl rfl (by kernel_rfl) (by kernel_rfl) (by kernel_rfl) (by kernel_rfl) (by kernel_rfl) (fun _ _ _ h=>h) (by rfl) ?_ (by assumption) ?_;rotate_left
    ·(intro w hSw;go_simp;first|done|with_reducible rfl)
    simp only[sX1,sX2,sX3];refine pU 10 28 ?_;refine pU 11 29 ?_;refine pU 12 30 ?_;refine pU 13 31 ?_;refine qAb 14 32 (v:= ?_) rfl rfl (by kernel_rfl) (by kernel_rfl) (by kernel_rfl) (by kernel_rfl) (by kernel_rfl) (fun _ _ _ h=>h) (by rfl) ?_ (by assumption) ?_;rotate_left
    ·(intro w hSw;go_simp;first|done|with_reducible rfl)
    simp only[sX1,sX2,sX3];refine eU 7 fun K hK=> ?_;go_simp;refine HN.o.mono ?_;rintro e wq ⟨rfl,hwq⟩;subst hwq
    go_wp2_with fail
    refine hK.out _ _ (hHeld) (fun hHeld=> ?_);clear hK K
    try simp only[Act.put,sX1,sX2,sX3]
    refine pU 8 26 ?_;refine pU 9 27 ?_;refine pU 15 33 ?_;refine lU 16 fun K hK=> ?_;go_simp;refine hK.out _ _ ?_;clear hK K
    try simp only[Act.put,sX1,sX2,sX3]
    refine dU ?_;clear hHeld;clear s1 s2 s3 s4
    go_wp2_with fail
    go_roundw
    case rel=>
     refine⟨k+1,t++[44]++[32]++u++[32]++p.name,by omega,by go_num,?_,hZ ?_,?_,HBd⟩
     ·refine congrArg Value.string ?_
      have e1:=qAh (t++[44]) [32];have e2:=qAh (t++[44]++[32]) u;have e3:=qAh (t++[44]++[32]++u) [32];have e4:=qAh (t++[44]++[32]++u++[32]) p.name;have e44:=qAh t [44];rw[<-e4,<-e3,<-e2,<-e1,<-e44]
     ·rw[HT2.o,HT.o,if_pos (by omega)]
      simp
     ·simp;omega
    case measure=>simp[intOf];omega
   ·skip
    have s1:¬9223372036854775807<t.length+1:=by omega
    have s2:¬9223372036854775807<t.length+1+u.length:=by omega
    have s3:¬9223372036854775807<t.length+1+u.length+1:=by omega
    have s4:¬9223372036854775807<t.length+1+u.length+1+p.name.length:=by omega
    go_wp2_with fail
    refine qAs [16] (fun W=>W.cell? ⟨g,o1+k*3,none⟩=some (.int .i64 p.n)/\W.cell? ⟨g,o1+k*3+1,none⟩=some (.string ⟨p.name.toArray⟩)) (by kernel_rfl) (⟨y0,y1⟩) (fun hHeld=> ?_);rw[hwd]at hHeld ⊢;clear hwd y0 y1;refine pU 0 18 ?_;refine pU 1 19 ?_;refine pU 2 20 ?_;refine pU 3 21 ?_;refine pU 4 22 ?_;refine pU 5 23 ?_;refine qAb 6 24 (v:= ?_) rfl rfl (by kernel_rfl) (by kernel_rfl) (by kernel_rfl) (by kernel_rfl) (by kernel_rfl) (fun _ _ _ h=>h) (by rfl) ?_ (by assumption) ?_;rotate_left
    ·(intro w hSw;go_simp;first|done|with_reducible rfl)
    simp only[sX1,sX2,sX3];refine pU 10 28 ?_;refine pU 11 29 ?_;refine pU 12 30 ?_;refine pU 13 31 ?_;refine qAb 14 32 (v:= ?_) rfl rfl (by kernel_rfl) (by kernel_rfl) (by kernel_rfl) (by kernel_rfl) (by kernel_rfl) (fun _ _ _ h=>h) (by rfl) ?_ (by assumption) ?_;rotate_left
    ·(intro w hSw;go_simp;first|done|with_reducible rfl)
    simp only[sX1,sX2,sX3];refine eU 7 fun K hK=> ?_;go_simp;refine HN.o.mono ?_;rintro e wq ⟨rfl,hwq⟩;subst hwq
    go_wp2_with fail
    refine hK.out _ _ (hHeld) (fun hHeld=> ?_);clear hK K
    try simp only[Act.put,sX1,sX2,sX3]
    refine pU 8 26 ?_;refine pU 9 27 ?_;refine pU 15 33 ?_;refine lU 16 fun K hK=> ?_;go_simp;refine hK.out _ _ ?_;clear hK K
    try simp only[Act.put,sX1,sX2,sX3]
    refine dU ?_;clear hHeld;clear s1 s2 s3 s4
    go_wp2_with fail
    go_roundw
    case rel=>
     refine⟨k+1,t++[32]++u++[32]++p.name,by omega,by go_num,?_,hZ ?_,?_,HBd⟩
     ·refine congrArg Value.string ?_
      have e1:=qAh (t) [32];have e2:=qAh (t++[32]) u;have e3:=qAh (t++[32]++u) [32];have e4:=qAh (t++[32]++u++[32]) p.name
      skip
      rw[<-e4,<-e3,<-e2,<-e1]
     ·rw[HT2.o,HT.o,if_neg (by omega)]
      simp
     ·simp;omega
    case measure=>simp[intOf];omega
  ·have hn1:¬(k:Int)<(n:Int):=by omega
   have hkn:k=n:=by omega
   have HP:Hid (t=x++prL false l):=hZ (by rw[HT.o,hkn,<-Hn.o,List.take_length]);by_cases hz:n=0
   ·have q:((n:Int)==0)=true:=by simp[hz]
    have Hl:Hid (lsT x l=[]):=hZ (by unfold lsT;have hnil:l=[]:=List.eq_nil_of_length_eq_zero (by rw[Hn.o,hz]);rw[hnil];rfl);clear HT hkn hz
    go_wp2_with fail
    go_ret;exact⟨by rw[Hl.o];rfl,HB.o⟩
   ·have q:((n:Int)==0)=false:=by simp;omega
    have Hl:Hid (lsT x l=t):=hZ (by
     unfold lsT;have:l.isEmpty=false:=by
      cases l with
      |nil=>exact absurd Hn.o.symm hz
      |cons a l=>rfl
     rw[this,HP.o];rfl)
    clear HT hkn hz
    go_wp2_with fail
    go_ret;exact⟨by rw[Hl.o];rfl,HB.o⟩
open Go
section
variable {P:Program}{md:Region.Mode}{ops:Array Oper}{Q:Exit->Act->World->Prop}{S:World->Prop}{late:List Nat}
def qBR(P:Program)(ops:Array Oper)(S:World->Prop)(o:Oper)(v:Value)(a:Act):Prop:=
 Region.wanted o (yielded ops a.tmps)=true/\∀w,S w->∃f args,(execOp a.eval o).run P w=.ok (.enter f args) w/\Calls P f args w fun e w'=>e=.returned v/\w'=w
theorem qBR.step{i:Nat}{o:Oper}{v:Value}{a:Act}{K:Act->World->Prop}{w:World}(hi:ops[i]? =some o)(hy:qBR P ops S o v a)(hS:S w)(h:K (a.put o.dst v) w):wpOp P ops Q i K a w:=by
 obtain⟨hw,hv⟩:=hy;obtain⟨f,args,h1,h2⟩:=hv w hS;unfold wpOp;simp only[hi,hw,if_true]
 left
 unfold Oper.wp;rw[h1];exact h2.mono fun e w' ⟨he,hw⟩=>by subst he hw;exact h
theorem qBR.same{o:Oper}{v:Value}{a a':Act}(hy:qBR P ops S o v a)(he:execOp a'.eval o=execOp a.eval o)(hw:Region.wanted o (yielded ops a'.tmps)=Region.wanted o (yielded ops a.tmps)):qBR P ops S o v a':=by
 unfold qBR at *;rw[he,hw];exact hy
theorem qHN{j:Nat}{oj:Oper}{I:Act->Prop}(hj:ops[j]? =some oj)(hk:∀a u,I a->I (a.put oj.dst u))(hd:∀(a:Act) d,I a->I { a with defers:=d::a.defers }){K:Act->World->Prop}{a:Act}{w:World}(hi:I a)(h:wpOp P ops Q j K a w):
 wpOp P ops Q j (fun a' w'=>I a'/\K a' w') a w:=by
 unfold wpOp at *;simp only[hj]at *;by_cases hw:Region.wanted oj (yielded ops a.tmps)=true
 ·simp only[hw,if_true]at h ⊢
  refine h.imp (fun h=> ?_) id;unfold Oper.wp at *;cases hr:(execOp a.eval oj).run P w with
  |ok n w'=>
   rw[hr]at h;cases n with
   |value u=>exact⟨hk a u hi,h⟩
   |skip=>exact⟨hk a _ hi,h⟩
   |defer d=>exact⟨hk _ _ (hd a d hi),h⟩
   |enter f args=>
    refine Calls.mono h fun e w'' he=> ?_;cases e with
    |returned u=>exact⟨hk a u hi,he⟩
    |panicked c=>exact he
    |outgrown=>exact he
   |row r args=>exact Rows.mono h fun u w'' he=>⟨hk a u hi,he⟩
   |_=>exact h
  |halt x w'=>
   rw[hr]at h;cases x<;>exact h
 ·simp only[hw,Bool.false_eq_true,if_false]at h ⊢
  exact⟨hk a _ hi,h⟩
theorem qHM{j:Nat}{oi oj:Oper}{v:Value}(hj:ops[j]? =some oj)(hap:oi.apart ops oj=true)(hsi:∀cs b,oi.op≠ .select cs b)(hsj:∀cs b,oj.op≠ .select cs b)
 (hQ:∀c a w,Q (.panic c) (a.put oi.dst v) w->Q (.panic c) a w){K:Act->World->Prop}{a:Act}{w:World}(hy:qBR P ops S oi v a)(h:wpOp P ops Q j K (a.put oi.dst v) w):
 wpOp P ops Q j (fun a' w'=>qBR P ops S oi v a'/\K (a'.put oi.dst v) w') a w:=by
 obtain⟨h1,h2,h3⟩:=Oper.apart_spec hap;have hA:=wpOp_putIf (S:=fun _=>False) hj hap hsi hsj hQ (K:=K) (a:=a) (w:=w) (Or.inl ⟨hy.1,fun w hf=>hf.elim⟩) h;have hB:=qHN (I:=fun a'=>qBR P ops S oi v a') hj (fun a u hy=>hy.same (execOp_put oi hsi a oj.dst u h3) (wanted_put oi a oj.dst u h3)) (fun a d hy=>hy.same rfl rfl) hy hA;exact wpOp_mono (fun a' w' h=>⟨h.1,h.2.2⟩) hB
theorem qF6{i:Nat}{oi:Oper}{v:Value}(hi:ops[i]? =some oi)(hsel:∀(j:Nat) (o:Oper) cs b,ops[j]? =some o->o.op≠ .select cs b)
 (hQ:∀c a w,Q (.panic c) (a.put oi.dst v) w->Q (.panic c) a w)(hwt:qCB md ops late i=true)(fuel:Nat):
 ∀(listed:Array Bool) (a:Act) (w:World),qDH md ops listed->
  (∀j oj,ops[j]? =some oj->j≠i->listed.getD j true=false->(∀e∈oj.after,Region.binds md e=true->e.on≠i)->oi.apart ops oj=true)->
  i∈Region.ready md ops listed->qBR P ops S oi v a->S w->
  qAv P md ops Q S late fuel (listed.setIfInBounds i true) (a.put oi.dst v) w->qAv P md ops Q S late (fuel+1) listed a w:=by
 induction fuel with
 |zero=>
  intro listed a w hc _ hr hy hS H;refine⟨fun h=>absurd hr (by rw[h];simp),fun j hj=> ?_⟩;by_cases hji:j=i
  ·subst hji
   exact hy.step hi hS ⟨fun _ _=>hS,H⟩
  ·exact absurd (ready_mono hj hji) (by rw[H.1];simp)
 |succ fuel ih=>
  intro listed a w hc hfree hr hy hS H;refine⟨fun h=>absurd hr (by rw[h];simp),fun j hj=> ?_⟩;by_cases hji:j=i
  ·subst hji
   exact hy.step hi hS ⟨fun _ _=>hS,H⟩
  ·have hjl:j∉late:=qGS hc hwt hr hj
   obtain⟨hjun,oj,hoj,hall⟩:=mem_ready.1 hj;have hnot:∀e∈oj.after,Region.binds md e=true->e.on≠i:=by
    intro e he hb heq;have h1:=hall e he hb;have h0:=(mem_ready.1 hr).1;rw[heq]at h1;rcases Nat.lt_or_ge i listed.size with h'|h'
    ·simp[h']at h0 h1
     rw[h0]at h1;cases h1
    ·simp[Array.getElem?_eq_none h']at h1
   have h2:=qHM hoj (hfree j oj hoj hji hjun hnot) (fun cs b=>hsel i oi cs b hi) (fun cs b=>hsel j oj cs b hoj) hQ hy (H.2 j (ready_mono hj hji));refine wpOp_mono (fun a' w' h3=>⟨h3.2.1,ih _ a' w' (hc.set hj) (fun k ok hk hki hun hno=> ?_) (ready_mono hr (Ne.symm hji)) h3.1 (h3.2.1 hjl hS) ?_⟩) h2
   ·refine hfree k ok hk hki ?_ hno
    by_cases hjk:j=k
    ·subst hjk;exact hjun
    ·rw[getD_set_ne true hjk]at hun;exact hun
   ·rw[Array.setIfInBounds_comm _ _ hji]
    exact h3.2.2
theorem qBW(i d:Nat){oi:Oper}{v:Value}{fuel:Nat}{listed:Array Bool}{tmps:Array Value}{ds:List Deferred}{w:World}(hi:ops[i]? =some oi)(hd:oi.dst=some d)
 (hs:Region.noSelect ops=true)(hf:Region.free md ops listed i=true)(hr:(Region.ready md ops listed).contains i=true)(hwt:qCB md ops late i=true)(hc:qCn md ops listed=true)
 (hQ:∀c a w,Q (.panic c) (a.put oi.dst v) w->Q (.panic c) a w)(hw:Region.wanted oi (yielded ops tmps)=true)
 (hy:∀w,S w->∃f args,(execOp (Act.eval ⟨tmps,ds⟩) oi).run P w=.ok (.enter f args) w/\Calls P f args w fun e w'=>e=.returned v/\w'=w)(hS:S w)
 (h:qAv P md ops Q S late fuel (listed.setIfInBounds i true) ⟨tmps.setIfInBounds d v,ds⟩ w):qAv P md ops Q S late (fuel+1) listed ⟨tmps,ds⟩ w:=
 qF6 hi (Region.noSelect_spec hs) hQ hwt fuel listed _ w (qEn hc) (Region.free_spec hi hf) (by simpa using hr) ⟨hw,hy⟩ hS (by rw[hd];exact h)
end
theorem qJM(n:Int)(h:0<=n/\n<=2):(([[],[32,98,105,110,100,32,103,101,116],[32,98,105,110,100,32,117,115,101]]:List Bs).map fun s=>Value.string ⟨s.toArray⟩)[n.toNat]? =some (.string ⟨(qBb n).toArray⟩):=by
 have:n=0\/n=1\/n=2:=by omega
 rcases this with rfl|rfl|rfl<;>rfl
theorem qGe(d:Dc)(t1 g1 b1 r1 x1:Option Addr)(t2 t3 g2 g3 b2 b3 r2 r3 x2 x3:Nat)(w:World)(hk:d.kind=0)(HNwear:qAj d.wear=true)(HNlevel:qAj d.level=true)(hb:0<=d.bind/\d.bind<=2):
 Calls Tryd.prog 51 #[.agg #[.int .i64 d.kind,.string ⟨d.name.toArray⟩,.int .i64 d.at_,.bool d.object,.bool d.mixed,.bool d.coin,.int .i64 d.wear,.int .i64 d.bind,.int .i64 d.level,.int .i64 d.time,.int .i64 d.chance,.int .i64 d.of_,.slice t1 t2 t3,.slice g1 g2 g3,.slice b1 b2 b3,.slice r1 r2 r3,.slice x1 x2 x3]] w fun e w'=>(∃u,e=.returned u/\qCe w' u (qAf d))/\Below w.heap.size w w':=by
 obtain⟨w1,hw1⟩:=eX (w.alloc (.cells #[.int .i64 d.kind,.string ⟨d.name.toArray⟩,.int .i64 d.at_,.bool d.object,.bool d.mixed,.bool d.coin,.int .i64 d.wear,.int .i64 d.bind,.int .i64 d.level,.int .i64 d.time,.int .i64 d.chance,.int .i64 d.of_,.slice t1 t2 t3,.slice g1 g2 g3,.slice b1 b2 b3,.slice r1 r2 r3,.slice x1 x2 x3] 34));have hB1:Below w.heap.size w w1:=by rw[<-hw1];exact qAa _ _
 have hb1:qAy w1 w.heap.size 34 [.int .i64 d.kind,.string ⟨d.name.toArray⟩,.int .i64 d.at_,.bool d.object,.bool d.mixed,.bool d.coin,.int .i64 d.wear,.int .i64 d.bind,.int .i64 d.level,.int .i64 d.time,.int .i64 d.chance,.int .i64 d.of_,.slice t1 t2 t3,.slice g1 g2 g3,.slice b1 b2 b3,.slice r1 r2 r3,.slice x1 x2 x3]:=by rw[<-hw1];exact qAy.new _ _ _
 obtain⟨bx,hbx⟩:=eX w.heap.size;rw[hbx]at hb1;have q0:(d.kind==0)=true:=by simp[hk]
 have HD:Hid (qAf d=[qB0 qAQ d.object,qB0 qBf d.mixed,qB0 qCc d.coin,qAz qDb d.wear,qBb d.bind,qAz qAO d.level]):=hZ (by unfold qAf;rw[if_pos hk]);obtain⟨wd,hwd⟩:=eX w1.drew;have hBd:Below w1.heap.size w1 wd:=by rw[<-hwd];exact qAc _
 have HBd:Hid (Below bx w wd):=hZ (by have h9:=hB1.trans (hBd.mono hB1.size);rw[hbx]at h9;exact h9);have Hbd:Hid (qAy wd bx 34 [.int .i64 d.kind,.string ⟨d.name.toArray⟩,.int .i64 d.at_,.bool d.object,.bool d.mixed,.bool d.coin,.int .i64 d.wear,.int .i64 d.bind,.int .i64 d.level,.int .i64 d.time,.int .i64 d.chance,.int .i64 d.of_,.slice t1 t2 t3,.slice g1 g2 g3,.slice b1 b2 b3,.slice r1 r2 r3,.slice x1 x2 x3]):=hZ ((hBd.block _ hb1.lt).trans hb1);have c0:w1.cell? ⟨bx,0,none⟩=some (.int .i64 d.kind):=hb1.cell 0;have c3:w1.cell? ⟨bx,3,none⟩=some (.bool d.object):=hb1.cell 3;have c4:w1.cell? ⟨bx,4,none⟩=some (.bool d.mixed):=hb1.cell 4;have c5:w1.cell? ⟨bx,5,none⟩=some (.bool d.coin):=hb1.cell 5;have c6:w1.cell? ⟨bx,6,none⟩=some (.int .i64 d.wear):=hb1.cell 6;have c7:w1.cell? ⟨bx,7,none⟩=some (.int .i64 d.bind):=hb1.cell 7;have c8:w1.cell? ⟨bx,8,none⟩=some (.int .i64 d.level):=hb1.cell 8;clear hB1 hb1 hBd hk
 go_enter Tryd.func51,Tryd.ntmps51
 go_wp2_with fail
 refine qAs [21] (fun W=>W.cell? ⟨bx,3,none⟩=some (.bool d.object)/\W.cell? ⟨bx,4,none⟩=some (.bool d.mixed)/\W.cell? ⟨bx,5,none⟩=some (.bool d.coin)/\W.cell? ⟨bx,6,none⟩=some (.int .i64 d.wear)/\W.cell? ⟨bx,7,none⟩=some (.int .i64 d.bind)/\W.cell? ⟨bx,8,none⟩=some (.int .i64 d.level)) (by kernel_rfl) (⟨c3,c4,c5,c6,c7,c8⟩) (fun hHeld=> ?_);rw[hwd]at hHeld ⊢;clear hwd;refine pU 0 10 ?_;refine qAb 1 11 (v:= ?_) rfl rfl (by kernel_rfl) (by kernel_rfl) (by kernel_rfl) (by kernel_rfl) (by kernel_rfl) (fun _ _ _ h=>h) (by rfl) ?_ (by assumption) ?_;rotate_left
 ·(intro w hSw;go_simp;first|done|with_reducible rfl)
 simp only[sX1,sX2,sX3];refine qBW 2 12 (v:=.string ⟨(qB0 [111,98,106,101,99,116] d.object).toArray⟩) rfl rfl (by kernel_rfl) (by kernel_rfl) (by kernel_rfl) (by kernel_rfl) (by kernel_rfl) (fun _ _ _ h=>h) (by rfl) ?_ (by assumption) ?_
 ·(intro w hSw;refine⟨_,_,?_,qD0 [111,98,106,101,99,116] d.object w (by decide)⟩;go_simp;first|done|with_reducible rfl)
 simp only[sX1,sX2,sX3];refine pU 3 13 ?_;refine qAb 4 14 (v:= ?_) rfl rfl (by kernel_rfl) (by kernel_rfl) (by kernel_rfl) (by kernel_rfl) (by kernel_rfl) (fun _ _ _ h=>h) (by rfl) ?_ (by assumption) ?_;rotate_left
 ·(intro w hSw;go_simp;first|done|with_reducible rfl)
 simp only[sX1,sX2,sX3];refine qBW 5 15 (v:=.string ⟨(qB0 [109,105,120,101,100] d.mixed).toArray⟩) rfl rfl (by kernel_rfl) (by kernel_rfl) (by kernel_rfl) (by kernel_rfl) (by kernel_rfl) (fun _ _ _ h=>h) (by rfl) ?_ (by assumption) ?_
 ·(intro w hSw;refine⟨_,_,?_,qD0 [109,105,120,101,100] d.mixed w (by decide)⟩;go_simp;first|done|with_reducible rfl)
 simp only[sX1,sX2,sX3];refine pU 6 16 ?_;refine qAb 7 17 (v:= ?_) rfl rfl (by kernel_rfl) (by kernel_rfl) (by kernel_rfl) (by kernel_rfl) (by kernel_rfl) (fun _ _ _ h=>h) (by rfl) ?_ (by assumption) ?_;rotate_left
 ·(intro w hSw;go_simp;first|done|with_reducible rfl)
 simp only[sX1,sX2,sX3];refine qBW 8 18 (v:=.string ⟨(qB0 [99,111,105,110] d.coin).toArray⟩) rfl rfl (by kernel_rfl) (by kernel_rfl) (by kernel_rfl) (by kernel_rfl) (by kernel_rfl) (fun _ _ _ h=>h) (by rfl) ?_ (by assumption) ?_
 ·(intro w hSw;refine⟨_,_,?_,qD0 [99,111,105,110] d.coin w (by decide)⟩;go_simp;first|done|with_reducible rfl)
 simp only[sX1,sX2,sX3];refine pU 9 19 ?_;refine qAb 10 20 (v:= ?_) rfl rfl (by kernel_rfl) (by kernel_rfl) (by kernel_rfl) (by kernel_rfl) (by kernel_rfl) (fun _ _ _ h=>h) (by rfl) ?_ (by assumption) ?_;rotate_left
 ·(intro w hSw;go_simp;first|done|with_reducible rfl)
 simp only[sX1,sX2,sX3];refine qBW 11 21 (v:=.string ⟨(qAz [119,101,97,114] d.wear).toArray⟩) rfl rfl (by kernel_rfl) (by kernel_rfl) (by kernel_rfl) (by kernel_rfl) (by kernel_rfl) (fun _ _ _ h=>h) (by rfl) ?_ (by assumption) ?_
 ·(intro w hSw;refine⟨_,_,?_,qCp [119,101,97,114] d.wear HNwear w (by decide)⟩;go_simp;first|done|with_reducible rfl)
 simp only[sX1,sX2,sX3];refine pU 13 23 ?_;refine qAb 14 24 (v:= ?_) rfl rfl (by kernel_rfl) (by kernel_rfl) (by kernel_rfl) (by kernel_rfl) (by kernel_rfl) (fun _ _ _ h=>h) (by rfl) ?_ (by assumption) ?_;rotate_left
 ·(intro w hSw;go_simp;first|done|with_reducible rfl)
 simp only[sX1,sX2,sX3];refine pU 17 27 ?_;refine qAb 18 28 (v:= ?_) rfl rfl (by kernel_rfl) (by kernel_rfl) (by kernel_rfl) (by kernel_rfl) (by kernel_rfl) (fun _ _ _ h=>h) (by rfl) ?_ (by assumption) ?_;rotate_left
 ·(intro w hSw;go_simp;first|done|with_reducible rfl)
 simp only[sX1,sX2,sX3];refine qBW 19 29 (v:=.string ⟨(qAz [108,101,118,101,108] d.level).toArray⟩) rfl rfl (by kernel_rfl) (by kernel_rfl) (by kernel_rfl) (by kernel_rfl) (by kernel_rfl) (fun _ _ _ h=>h) (by rfl) ?_ (by assumption) ?_
 ·(intro w hSw;refine⟨_,_,?_,qCp [108,101,118,101,108] d.level HNlevel w (by decide)⟩;go_simp;first|done|with_reducible rfl)
 simp only[sX1,sX2,sX3];obtain⟨wl,hwl⟩:=eX (wd.alloc (.cells #[.string ⟨#[]⟩,.string ⟨#[32,98,105,110,100,32,103,101,116]⟩,.string ⟨#[32,98,105,110,100,32,117,115,101]⟩] 9));have hBl:Below wd.heap.size wd wl:=by rw[<-hwl];exact qAa _ _
 have hcx:wl.cell? ⟨wd.heap.size,d.bind.toNat,none⟩=some (.string ⟨(qBb d.bind).toArray⟩):=by rw[<-hwl];exact(qB2 (L:=([[],[32,98,105,110,100,32,103,101,116],[32,98,105,110,100,32,117,115,101]]:List Bs).map fun s=>Value.string ⟨s.toArray⟩) (qAg.refl (fun j=>j=bx) _) Hbd.o.lt).trans (qJM d.bind hb)
 have Hwl:Hid (qAy wl bx 34 [.int .i64 d.kind,.string ⟨d.name.toArray⟩,.int .i64 d.at_,.bool d.object,.bool d.mixed,.bool d.coin,.int .i64 d.wear,.int .i64 d.bind,.int .i64 d.level,.int .i64 d.time,.int .i64 d.chance,.int .i64 d.of_,.slice t1 t2 t3,.slice g1 g2 g3,.slice b1 b2 b3,.slice r1 r2 r3,.slice x1 x2 x3]):=hZ ((hBl.block _ Hbd.o.lt).trans Hbd.o);have hlw:wd.heap.size<wl.heap.size:=by rw[<-hwl];simp
 have l3:wl.cell? ⟨bx,3,none⟩=some (.bool d.object):=Hwl.o.cell 3;have l4:wl.cell? ⟨bx,4,none⟩=some (.bool d.mixed):=Hwl.o.cell 4;have l5:wl.cell? ⟨bx,5,none⟩=some (.bool d.coin):=Hwl.o.cell 5;have l6:wl.cell? ⟨bx,6,none⟩=some (.int .i64 d.wear):=Hwl.o.cell 6;have l7:wl.cell? ⟨bx,7,none⟩=some (.int .i64 d.bind):=Hwl.o.cell 7;have l8:wl.cell? ⟨bx,8,none⟩=some (.int .i64 d.level):=Hwl.o.cell 8;refine eU 12 fun K hK=> ?_;go_simp;clear hwl
 go_wp2_with fail
 refine hK.out _ _ (⟨l3,l4,l5,l6,l7,l8⟩) (fun hHeld=> ?_);clear hK K
 try simp only[Act.put,sX1,sX2,sX3]
 clear l3 l4 l5 l6 l7 l8;have hb0:=hb.1;have hb1:d.bind<3:=by have:=hb.2;omega
 refine pU 15 25 ?_;refine eU 16 fun K hK=> ?_;go_simp;clear hcx
 go_wp2_with fail
 refine hK.out _ _ (hHeld) (fun hHeld=> ?_);clear hK K
 try simp only[Act.put,sX1,sX2,sX3]
 obtain⟨wz,hwz⟩:=eX (wl.alloc (.cells #[.string ⟨(qB0 [111,98,106,101,99,116] d.object).toArray⟩,.string ⟨(qB0 [109,105,120,101,100] d.mixed).toArray⟩,.string ⟨(qB0 [99,111,105,110] d.coin).toArray⟩,.string ⟨(qAz [119,101,97,114] d.wear).toArray⟩,.string ⟨(qBb d.bind).toArray⟩,.string ⟨(qAz [108,101,118,101,108] d.level).toArray⟩] 9));have hBz:Below wl.heap.size wl wz:=by rw[<-hwz];exact qAa _ _
 have HST:Hid (qCe wz (.slice (some ⟨wl.heap.size,0,none⟩) 6 6) [qB0 [111,98,106,101,99,116] d.object,qB0 [109,105,120,101,100] d.mixed,qB0 [99,111,105,110] d.coin,qAz [119,101,97,114] d.wear,qBb d.bind,qAz [108,101,118,101,108] d.level]):=hZ (by rw[<-hwz];exact qCe.lit wl [qB0 [111,98,106,101,99,116] d.object,qB0 [109,105,120,101,100] d.mixed,qB0 [99,111,105,110] d.coin,qAz [119,101,97,114] d.wear,qBb d.bind,qAz [108,101,118,101,108] d.level] 6 rfl (by decide));have Hwz:Hid (qAy wz bx 34 [.int .i64 d.kind,.string ⟨d.name.toArray⟩,.int .i64 d.at_,.bool d.object,.bool d.mixed,.bool d.coin,.int .i64 d.wear,.int .i64 d.bind,.int .i64 d.level,.int .i64 d.time,.int .i64 d.chance,.int .i64 d.of_,.slice t1 t2 t3,.slice g1 g2 g3,.slice b1 b2 b3,.slice r1 r2 r3,.slice x1 x2 x3]):=hZ ((hBz.block _ Hwl.o.lt).trans Hwl.o);have HB:Hid (Below bx w wz):=hZ (have hx:bx<=wd.heap.size:=(by have h9:=HBd.o.size;omega);(HBd.o.trans (hBl.mono hx)).trans (hBz.mono (Nat.le_trans hx hBl.size)));have z3:wz.cell? ⟨bx,3,none⟩=some (.bool d.object):=Hwz.o.cell 3;have z4:wz.cell? ⟨bx,4,none⟩=some (.bool d.mixed):=Hwz.o.cell 4;have z5:wz.cell? ⟨bx,5,none⟩=some (.bool d.coin):=Hwz.o.cell 5;have z6:wz.cell? ⟨bx,6,none⟩=some (.int .i64 d.wear):=Hwz.o.cell 6;have z7:wz.cell? ⟨bx,7,none⟩=some (.int .i64 d.bind):=Hwz.o.cell 7;have z8:wz.cell? ⟨bx,8,none⟩=some (.int .i64 d.level):=Hwz.o.cell 8;refine eU 20 fun K hK=> ?_;go_simp;clear hwz
 go_wp2_with fail
 refine hK.out _ _ (⟨z3,z4,z5,z6,z7,z8⟩) (fun hHeld=> ?_);clear hK K
 try simp only[Act.put,sX1,sX2,sX3]
 clear z3 z4 z5 z6 z7 z8;refine lU 21 fun K hK=> ?_;go_simp;refine hK.out _ _ ?_;clear hK K
 try simp only[Act.put,sX1,sX2,sX3]
 refine dU ?_;clear hHeld
 go_wp2_with fail
 go_ret;exact⟨⟨_,rfl,by rw[HD.o];exact HST.o⟩,by have h9:=HB.o;rw[<-hbx]at h9;exact h9⟩
theorem qGd(d:Dc)(t1 g1 b1 r1 x1:Option Addr)(t2 t3 g2 g3 b2 b3 r2 r3 x2 x3:Nat)(w:World)(hk:d.kind=1\/d.kind=2)(HNlevel:qAj d.level=true)(HNtime:qAj d.time=true)(HNchance:qAj d.chance=true)(HNof:qAj d.of_=true)
 (hT0:qAD 74 w (.slice t1 t2 t3) d.take)(hG0:qAD 74 w (.slice g1 g2 g3) d.give)(hR0:qAD 74 w (.slice b1 b2 b3) d.back)(hsh:ShL d.take/\ShL d.give/\ShL d.back):
 Calls Tryd.prog 51 #[.agg #[.int .i64 d.kind,.string ⟨d.name.toArray⟩,.int .i64 d.at_,.bool d.object,.bool d.mixed,.bool d.coin,.int .i64 d.wear,.int .i64 d.bind,.int .i64 d.level,.int .i64 d.time,.int .i64 d.chance,.int .i64 d.of_,.slice t1 t2 t3,.slice g1 g2 g3,.slice b1 b2 b3,.slice r1 r2 r3,.slice x1 x2 x3]] w fun e w'=>(∃u,e=.returned u/\qCe w' u (qAf d))/\Below w.heap.size w w':=by
 obtain⟨w1,hw1⟩:=eX (w.alloc (.cells #[.int .i64 d.kind,.string ⟨d.name.toArray⟩,.int .i64 d.at_,.bool d.object,.bool d.mixed,.bool d.coin,.int .i64 d.wear,.int .i64 d.bind,.int .i64 d.level,.int .i64 d.time,.int .i64 d.chance,.int .i64 d.of_,.slice t1 t2 t3,.slice g1 g2 g3,.slice b1 b2 b3,.slice r1 r2 r3,.slice x1 x2 x3] 34));have hB1:Below w.heap.size w w1:=by rw[<-hw1];exact qAa _ _
 have hb1:qAy w1 w.heap.size 34 [.int .i64 d.kind,.string ⟨d.name.toArray⟩,.int .i64 d.at_,.bool d.object,.bool d.mixed,.bool d.coin,.int .i64 d.wear,.int .i64 d.bind,.int .i64 d.level,.int .i64 d.time,.int .i64 d.chance,.int .i64 d.of_,.slice t1 t2 t3,.slice g1 g2 g3,.slice b1 b2 b3,.slice r1 r2 r3,.slice x1 x2 x3]:=by rw[<-hw1];exact qAy.new _ _ _
 have hk1:=KpX.of_below (X:=[]) hB1;have hT1:=hT0.kp hk1 (by simp);have hG1:=hG0.kp hk1 (by simp);have hR1:=hR0.kp hk1 (by simp);obtain⟨bx,hbx⟩:=eX w.heap.size;rw[hbx]at hb1 hB1;have q0:(d.kind==0)=false:=by simp;omega
 have q2:d.kind<=2:=by omega
 have HD:Hid (qAf d=[qAz qAO d.level,qAz qCS d.time,qAl d.chance d.of_,qAB qDc d.take,qAB qDe d.give,qAB qDf d.back]):=hZ (by unfold qAf;rw[if_neg (by omega),if_pos q2]);have c0:w1.cell? ⟨bx,0,none⟩=some (.int .i64 d.kind):=hb1.cell 0;have c10:w1.cell? ⟨bx,10,none⟩=some (.int .i64 d.chance):=hb1.cell 10;have c11:w1.cell? ⟨bx,11,none⟩=some (.int .i64 d.of_):=hb1.cell 11;have HS1:Hid (qAy w1 bx 34 [.int .i64 d.kind,.string ⟨d.name.toArray⟩,.int .i64 d.at_,.bool d.object,.bool d.mixed,.bool d.coin,.int .i64 d.wear,.int .i64 d.bind,.int .i64 d.level,.int .i64 d.time,.int .i64 d.chance,.int .i64 d.of_,.slice t1 t2 t3,.slice g1 g2 g3,.slice b1 b2 b3,.slice r1 r2 r3,.slice x1 x2 x3]/\qAD 74 w1 (.slice t1 t2 t3) d.take/\qAD 74 w1 (.slice g1 g2 g3) d.give/\qAD 74 w1 (.slice b1 b2 b3) d.back/\Below bx w w1):=hZ ⟨hb1,hT1,hG1,hR1,hB1⟩;clear hb1 hB1 hT0 hG0 hR0 hk1 hT1 hG1 hR1 hk
 go_enter Tryd.func51,Tryd.ntmps51
 go_upto_region 4 with fail
 clear hw1 c0
 go_step
 go_step
 go_step
 go_step
 go_step
 go_step
 go_step
 go_step
 go_cut [3]from 34 (fun cv wc=>cv=.string ⟨(qAl d.chance d.of_).toArray⟩/\Hid (qAy wc bx 34 [.int .i64 d.kind,.string ⟨d.name.toArray⟩,.int .i64 d.at_,.bool d.object,.bool d.mixed,.bool d.coin,.int .i64 d.wear,.int .i64 d.bind,.int .i64 d.level,.int .i64 d.time,.int .i64 d.chance,.int .i64 d.of_,.slice t1 t2 t3,.slice g1 g2 g3,.slice b1 b2 b3,.slice r1 r2 r3,.slice x1 x2 x3]/\qAD 74 wc (.slice t1 t2 t3) d.take/\qAD 74 wc (.slice g1 g2 g3) d.give/\qAD 74 wc (.slice b1 b2 b3) d.back/\Below bx w wc))
 case first=>
  by_cases h1:d.chance=0
  ·have e1:(d.chance==0)=true:=by simpa using h1
   have e9:(d.chance != 0)=false:=by simpa using h1
   by_cases h2:d.of_=0
   ·have HPC:Hid (qAl d.chance d.of_=[]):=hZ (by unfold qAl;rw[if_pos ⟨h1,h2⟩])
    have e2:(d.of_==0)=true:=by simpa using h2
    have e3:(d.of_ != 0)=false:=by simpa using h2
    clear h1 h2
    go_wp2_with fail
    go_meet
    case rel=>exact⟨by rw[HPC.o],HS1⟩
   ·have HPC:Hid (qAl d.chance d.of_=32::qAL++32::qAm d.chance++32::wOf++32::qAm d.of_):=hZ (by unfold qAl;rw[if_neg (fun h=>h2 h.2)])
    have e2:(d.of_==0)=false:=by simpa using h2
    have e3:(d.of_ != 0)=true:=by simpa using h2
    clear h1 h2;obtain⟨wd,hwd⟩:=eX w1.drew;have hBd:Below w1.heap.size w1 wd:=by rw[<-hwd];exact qAc _
    have hkd:=KpX.of_below (X:=[]) hBd;have HS2:Hid (qAy wd bx 34 [.int .i64 d.kind,.string ⟨d.name.toArray⟩,.int .i64 d.at_,.bool d.object,.bool d.mixed,.bool d.coin,.int .i64 d.wear,.int .i64 d.bind,.int .i64 d.level,.int .i64 d.time,.int .i64 d.chance,.int .i64 d.of_,.slice t1 t2 t3,.slice g1 g2 g3,.slice b1 b2 b3,.slice r1 r2 r3,.slice x1 x2 x3]/\qAD 74 wd (.slice t1 t2 t3) d.take/\qAD 74 wd (.slice g1 g2 g3) d.give/\qAD 74 wd (.slice b1 b2 b3) d.back/\Below bx w wd):=hZ ⟨(hBd.block _ HS1.o.1.lt).trans HS1.o.1,HS1.o.2.1.kp hkd (by simp),HS1.o.2.2.1.kp hkd (by simp),HS1.o.2.2.2.1.kp hkd (by simp),HS1.o.2.2.2.2.trans (hBd.mono (by have h9:=HS1.o.2.2.2.2.size;omega))⟩;have hnl1:=qAi HNchance;have hnl2:=qAi HNof;have s1:¬9223372036854775807<8+(qAm d.chance).length:=by omega
    have s2:¬9223372036854775807<8+(qAm d.chance).length+4:=by omega
    have s3:¬9223372036854775807<8+(qAm d.chance).length+4+(qAm d.of_).length:=by omega
    clear hBd hkd
    go_wp2_with fail
    refine qAs [9] (fun W=>W.cell? ⟨bx,10,none⟩=some (.int .i64 d.chance)/\W.cell? ⟨bx,11,none⟩=some (.int .i64 d.of_)) (by kernel_rfl) (⟨c10,c11⟩) (fun hHeld=> ?_);rw[hwd]at hHeld ⊢;clear hwd;refine pU 0 42 ?_;refine qAb 1 43 (v:= ?_) rfl rfl (by kernel_rfl) (by kernel_rfl) (by kernel_rfl) (by kernel_rfl) (by kernel_rfl) (fun _ _ _ h=>h) (by rfl) ?_ (by assumption) ?_;rotate_left
    ·(intro w hSw;go_simp;first|done|with_reducible rfl)
    simp only[sX1,sX2,sX3];refine qBW 2 44 (v:=.string ⟨(qAm d.chance).toArray⟩) rfl rfl (by kernel_rfl) (by kernel_rfl) (by kernel_rfl) (by kernel_rfl) (by kernel_rfl) (fun _ _ _ h=>h) (by rfl) ?_ (by assumption) ?_
    ·(intro w hSw;refine⟨_,_,?_,qAS d.chance HNchance w⟩;go_simp;first|done|with_reducible rfl)
    simp only[sX1,sX2,sX3];refine pU 3 45 ?_;refine pU 4 46 ?_;refine pU 5 47 ?_;refine qAb 6 48 (v:= ?_) rfl rfl (by kernel_rfl) (by kernel_rfl) (by kernel_rfl) (by kernel_rfl) (by kernel_rfl) (fun _ _ _ h=>h) (by rfl) ?_ (by assumption) ?_;rotate_left
    ·(intro w hSw;go_simp;first|done|with_reducible rfl)
    simp only[sX1,sX2,sX3];refine qBW 7 49 (v:=.string ⟨(qAm d.of_).toArray⟩) rfl rfl (by kernel_rfl) (by kernel_rfl) (by kernel_rfl) (by kernel_rfl) (by kernel_rfl) (fun _ _ _ h=>h) (by rfl) ?_ (by assumption) ?_
    ·(intro w hSw;refine⟨_,_,?_,qAS d.of_ HNof w⟩;go_simp;first|done|with_reducible rfl)
    simp only[sX1,sX2,sX3];refine pU 8 50 ?_;refine lU 9 fun K hK=> ?_;go_simp;refine hK.out _ _ ?_;clear hK K
    try simp only[Act.put,sX1,sX2,sX3]
    refine dU ?_;clear hHeld
    go_wp2_with fail
    go_meet
    case rel=>
     refine⟨?_,HS2⟩;rw[HPC.o];refine congrArg Value.string ?_;have e1:=qAh [32,99,104,97,110,99,101,32] (qAm d.chance);have e2:=qAh ([32,99,104,97,110,99,101,32]++qAm d.chance) [32,111,102,32];have e3:=qAh ([32,99,104,97,110,99,101,32]++qAm d.chance++[32,111,102,32]) (qAm d.of_);refine Eq.trans ?_ (congrArg (fun s:Bs=>(⟨s.toArray⟩:ByteArray)) (show[32,99,104,97,110,99,101,32]++qAm d.chance++[32,111,102,32]++qAm d.of_=_ from by simp[qAL,wOf]));rw[<-e3,<-e2,<-e1]
  ·have HPC:Hid (qAl d.chance d.of_=32::qAL++32::qAm d.chance++32::wOf++32::qAm d.of_):=hZ (by unfold qAl;rw[if_neg (fun h=>h1 h.1)])
   have e2:(d.chance==0)=false:=by simpa using h1
   have e3:(d.chance != 0)=true:=by simpa using h1
   clear h1;obtain⟨wd,hwd⟩:=eX w1.drew;have hBd:Below w1.heap.size w1 wd:=by rw[<-hwd];exact qAc _
   have hkd:=KpX.of_below (X:=[]) hBd;have HS2:Hid (qAy wd bx 34 [.int .i64 d.kind,.string ⟨d.name.toArray⟩,.int .i64 d.at_,.bool d.object,.bool d.mixed,.bool d.coin,.int .i64 d.wear,.int .i64 d.bind,.int .i64 d.level,.int .i64 d.time,.int .i64 d.chance,.int .i64 d.of_,.slice t1 t2 t3,.slice g1 g2 g3,.slice b1 b2 b3,.slice r1 r2 r3,.slice x1 x2 x3]/\qAD 74 wd (.slice t1 t2 t3) d.take/\qAD 74 wd (.slice g1 g2 g3) d.give/\qAD 74 wd (.slice b1 b2 b3) d.back/\Below bx w wd):=hZ ⟨(hBd.block _ HS1.o.1.lt).trans HS1.o.1,HS1.o.2.1.kp hkd (by simp),HS1.o.2.2.1.kp hkd (by simp),HS1.o.2.2.2.1.kp hkd (by simp),HS1.o.2.2.2.2.trans (hBd.mono (by have h9:=HS1.o.2.2.2.2.size;omega))⟩;have hnl1:=qAi HNchance;have hnl2:=qAi HNof;have s1:¬9223372036854775807<8+(qAm d.chance).length:=by omega
   have s2:¬9223372036854775807<8+(qAm d.chance).length+4:=by omega
   have s3:¬9223372036854775807<8+(qAm d.chance).length+4+(qAm d.of_).length:=by omega
   clear hBd hkd
   go_wp2_with fail
   refine qAs [9] (fun W=>W.cell? ⟨bx,10,none⟩=some (.int .i64 d.chance)/\W.cell? ⟨bx,11,none⟩=some (.int .i64 d.of_)) (by kernel_rfl) (⟨c10,c11⟩) (fun hHeld=> ?_);rw[hwd]at hHeld ⊢;clear hwd;refine pU 0 42 ?_;refine qAb 1 43 (v:= ?_) rfl rfl (by kernel_rfl) (by kernel_rfl) (by kernel_rfl) (by kernel_rfl) (by kernel_rfl) (fun _ _ _ h=>h) (by rfl) ?_ (by assumption) ?_;rotate_left
   ·(intro w hSw;go_simp;first|done|with_reducible rfl)
   simp only[sX1,sX2,sX3];refine qBW 2 44 (v:=.string ⟨(qAm d.chance).toArray⟩) rfl rfl (by kernel_rfl) (by kernel_rfl) (by kernel_rfl) (by kernel_rfl) (by kernel_rfl) (fun _ _ _ h=>h) (by rfl) ?_ (by assumption) ?_
   ·(intro w hSw;refine⟨_,_,?_,qAS d.chance HNchance w⟩;go_simp;first|done|with_reducible rfl)
   simp only[sX1,sX2,sX3];refine pU 3 45 ?_;refine pU 4 46 ?_;refine pU 5 47 ?_;refine qAb 6 48 (v:= ?_) rfl rfl (by kernel_rfl) (by kernel_rfl) (by kernel_rfl) (by kernel_rfl) (by kernel_rfl) (fun _ _ _ h=>h) (by rfl) ?_ (by assumption) ?_;rotate_left
   ·(intro w hSw;go_simp;first|done|with_reducible rfl)
   simp only[sX1,sX2,sX3];refine qBW 7 49 (v:=.string ⟨(qAm d.of_).toArray⟩) rfl rfl (by kernel_rfl) (by kernel_rfl) (by kernel_rfl) (by kernel_rfl) (by kernel_rfl) (fun _ _ _ h=>h) (by rfl) ?_ (by assumption) ?_
   ·(intro w hSw;refine⟨_,_,?_,qAS d.of_ HNof w⟩;go_simp;first|done|with_reducible rfl)
   simp only[sX1,sX2,sX3];refine pU 8 50 ?_;refine lU 9 fun K hK=> ?_;go_simp;refine hK.out _ _ ?_;clear hK K
   try simp only[Act.put,sX1,sX2,sX3]
   refine dU ?_;clear hHeld
   go_wp2_with fail
   go_meet
   case rel=>
    refine⟨?_,HS2⟩;rw[HPC.o];refine congrArg Value.string ?_;have e1:=qAh [32,99,104,97,110,99,101,32] (qAm d.chance);have e2:=qAh ([32,99,104,97,110,99,101,32]++qAm d.chance) [32,111,102,32];have e3:=qAh ([32,99,104,97,110,99,101,32]++qAm d.chance++[32,111,102,32]) (qAm d.of_);refine Eq.trans ?_ (congrArg (fun s:Bs=>(⟨s.toArray⟩:ByteArray)) (show[32,99,104,97,110,99,101,32]++qAm d.chance++[32,111,102,32]++qAm d.of_=_ from by simp[qAL,wOf]));rw[<-e3,<-e2,<-e1]
 case rest=>
  obtain⟨rfl,HS⟩:=hcut;obtain⟨hbc,hT,hG,hR,hBc⟩:=HS.o;clear HS HS1 c10 c11;obtain⟨wd,hwd⟩:=eX wc.drew;have hBd:Below wc.heap.size wc wd:=by rw[<-hwd];exact qAc _
  have Hbd:Hid (qAy wd bx 34 [.int .i64 d.kind,.string ⟨d.name.toArray⟩,.int .i64 d.at_,.bool d.object,.bool d.mixed,.bool d.coin,.int .i64 d.wear,.int .i64 d.bind,.int .i64 d.level,.int .i64 d.time,.int .i64 d.chance,.int .i64 d.of_,.slice t1 t2 t3,.slice g1 g2 g3,.slice b1 b2 b3,.slice r1 r2 r3,.slice x1 x2 x3]):=hZ ((hBd.block _ hbc.lt).trans hbc);have hkd:=KpX.of_below (X:=[]) hBd;have HTd:=hZ (hT.kp hkd (by simp));have HGd:=hZ (hG.kp hkd (by simp));have HRd:=hZ (hR.kp hkd (by simp));have HBd:Hid (Below bx w wd):=hZ (hBc.trans (hBd.mono (by have h9:=hBc.size;omega)));have d8:wc.cell? ⟨bx,8,none⟩=some (.int .i64 d.level):=hbc.cell 8;have d9:wc.cell? ⟨bx,9,none⟩=some (.int .i64 d.time):=hbc.cell 9;have d12:wc.cell? ⟨bx,12,none⟩=some (.slice t1 t2 t3):=hbc.cell 12;have d13:wc.cell? ⟨bx,13,none⟩=some (.slice g1 g2 g3):=hbc.cell 13;have d14:wc.cell? ⟨bx,14,none⟩=some (.slice b1 b2 b3):=hbc.cell 14;clear hbc hT hG hR hBc hBd hkd
  go_wp2_with fail
  refine qAs [17] (fun W=>W.cell? ⟨bx,8,none⟩=some (.int .i64 d.level)/\W.cell? ⟨bx,9,none⟩=some (.int .i64 d.time)/\W.cell? ⟨bx,12,none⟩=some (.slice t1 t2 t3)/\W.cell? ⟨bx,13,none⟩=some (.slice g1 g2 g3)/\W.cell? ⟨bx,14,none⟩=some (.slice b1 b2 b3)) (by kernel_rfl) (⟨d8,d9,d12,d13,d14⟩) (fun hHeld=> ?_);rw[hwd]at hHeld ⊢;clear hwd d8 d9 d12 d13 d14;refine pU 0 51 ?_;refine qAb 1 52 (v:= ?_) rfl rfl (by kernel_rfl) (by kernel_rfl) (by kernel_rfl) (by kernel_rfl) (by kernel_rfl) (fun _ _ _ h=>h) (by rfl) ?_ (by assumption) ?_;rotate_left
  ·(intro w hSw;go_simp;first|done|with_reducible rfl)
  simp only[sX1,sX2,sX3];refine qBW 2 53 (v:=.string ⟨(qAz [108,101,118,101,108] d.level).toArray⟩) rfl rfl (by kernel_rfl) (by kernel_rfl) (by kernel_rfl) (by kernel_rfl) (by kernel_rfl) (fun _ _ _ h=>h) (by rfl) ?_ (by assumption) ?_
  ·(intro w hSw;refine⟨_,_,?_,qCp [108,101,118,101,108] d.level HNlevel w (by decide)⟩;go_simp;first|done|with_reducible rfl)
  simp only[sX1,sX2,sX3];refine pU 3 54 ?_;refine qAb 4 55 (v:= ?_) rfl rfl (by kernel_rfl) (by kernel_rfl) (by kernel_rfl) (by kernel_rfl) (by kernel_rfl) (fun _ _ _ h=>h) (by rfl) ?_ (by assumption) ?_;rotate_left
  ·(intro w hSw;go_simp;first|done|with_reducible rfl)
  simp only[sX1,sX2,sX3];refine qBW 5 56 (v:=.string ⟨(qAz [116,105,109,101] d.time).toArray⟩) rfl rfl (by kernel_rfl) (by kernel_rfl) (by kernel_rfl) (by kernel_rfl) (by kernel_rfl) (fun _ _ _ h=>h) (by rfl) ?_ (by assumption) ?_
  ·(intro w hSw;refine⟨_,_,?_,qCp [116,105,109,101] d.time HNtime w (by decide)⟩;go_simp;first|done|with_reducible rfl)
  simp only[sX1,sX2,sX3];refine pU 6 57 ?_;refine pU 7 58 ?_;refine qAb 8 59 (v:= ?_) rfl rfl (by kernel_rfl) (by kernel_rfl) (by kernel_rfl) (by kernel_rfl) (by kernel_rfl) (fun _ _ _ h=>h) (by rfl) ?_ (by assumption) ?_;rotate_left
  ·(intro w hSw;go_simp;first|done|with_reducible rfl)
  simp only[sX1,sX2,sX3];refine pU 10 61 ?_;refine qAb 11 62 (v:= ?_) rfl rfl (by kernel_rfl) (by kernel_rfl) (by kernel_rfl) (by kernel_rfl) (by kernel_rfl) (fun _ _ _ h=>h) (by rfl) ?_ (by assumption) ?_;rotate_left
  ·(intro w hSw;go_simp;first|done|with_reducible rfl)
  simp only[sX1,sX2,sX3];refine pU 13 64 ?_;refine qAb 14 65 (v:= ?_) rfl rfl (by kernel_rfl) (by kernel_rfl) (by kernel_rfl) (by kernel_rfl) (by kernel_rfl) (fun _ _ _ h=>h) (by rfl) ?_ (by assumption) ?_;rotate_left
  ·(intro w hSw;go_simp;first|done|with_reducible rfl)
  simp only[sX1,sX2,sX3];have HC9:=hZ (qBy [32,116,97,107,101] (.slice t1 t2 t3) d.take wd HTd.o (by decide) (Nat.le_trans hsh.1.1 (by decide)) hsh.1.2.2.1 hsh.1.2.2.2);refine eU 9 fun K hK=> ?_;go_simp;refine HC9.o.mono ?_;rintro e we ⟨rfl,hBn⟩;have hkn:=KpX.of_below (X:=[]) hBn;have Hbwe:Hid (qAy we bx 34 [.int .i64 d.kind,.string ⟨d.name.toArray⟩,.int .i64 d.at_,.bool d.object,.bool d.mixed,.bool d.coin,.int .i64 d.wear,.int .i64 d.bind,.int .i64 d.level,.int .i64 d.time,.int .i64 d.chance,.int .i64 d.of_,.slice t1 t2 t3,.slice g1 g2 g3,.slice b1 b2 b3,.slice r1 r2 r3,.slice x1 x2 x3]):=hZ ((hBn.block _ Hbd.o.lt).trans Hbd.o);have HGe:=hZ (HGd.o.kp hkn (by simp));have HRe:=hZ (HRd.o.kp hkn (by simp));have HBwe:Hid (Below bx w we):=hZ (HBd.o.trans (hBn.mono (by have h9:=HBd.o.size;omega)));have wec8:we.cell? ⟨bx,8,none⟩=some (.int .i64 d.level):=Hbwe.o.cell 8;have wec9:we.cell? ⟨bx,9,none⟩=some (.int .i64 d.time):=Hbwe.o.cell 9;have wec12:we.cell? ⟨bx,12,none⟩=some (.slice t1 t2 t3):=Hbwe.o.cell 12;have wec13:we.cell? ⟨bx,13,none⟩=some (.slice g1 g2 g3):=Hbwe.o.cell 13;have wec14:we.cell? ⟨bx,14,none⟩=some (.slice b1 b2 b3):=Hbwe.o.cell 14;clear hBn hkn HC9
  go_wp2_with fail
  refine hK.out _ _ (⟨wec8,wec9,wec12,wec13,wec14⟩) (fun hHeld=> ?_);clear hK K
  try simp only[Act.put,sX1,sX2,sX3]
  clear wec8 wec9 wec12 wec13 wec14;have HC12:=hZ (qBy [32,103,105,118,101] (.slice g1 g2 g3) d.give we HGe.o (by decide) (Nat.le_trans hsh.2.1.1 (by decide)) hsh.2.1.2.2.1 hsh.2.1.2.2.2);refine eU 12 fun K hK=> ?_;go_simp;refine HC12.o.mono ?_;rintro e wf ⟨rfl,hBn⟩;have hkn:=KpX.of_below (X:=[]) hBn;have Hbwf:Hid (qAy wf bx 34 [.int .i64 d.kind,.string ⟨d.name.toArray⟩,.int .i64 d.at_,.bool d.object,.bool d.mixed,.bool d.coin,.int .i64 d.wear,.int .i64 d.bind,.int .i64 d.level,.int .i64 d.time,.int .i64 d.chance,.int .i64 d.of_,.slice t1 t2 t3,.slice g1 g2 g3,.slice b1 b2 b3,.slice r1 r2 r3,.slice x1 x2 x3]):=hZ ((hBn.block _ Hbwe.o.lt).trans Hbwe.o);have HRf:=hZ (HRe.o.kp hkn (by simp));have HBwf:Hid (Below bx w wf):=hZ (HBwe.o.trans (hBn.mono (by have h9:=HBwe.o.size;omega)));have wfc8:wf.cell? ⟨bx,8,none⟩=some (.int .i64 d.level):=Hbwf.o.cell 8;have wfc9:wf.cell? ⟨bx,9,none⟩=some (.int .i64 d.time):=Hbwf.o.cell 9;have wfc12:wf.cell? ⟨bx,12,none⟩=some (.slice t1 t2 t3):=Hbwf.o.cell 12;have wfc13:wf.cell? ⟨bx,13,none⟩=some (.slice g1 g2 g3):=Hbwf.o.cell 13;have wfc14:wf.cell? ⟨bx,14,none⟩=some (.slice b1 b2 b3):=Hbwf.o.cell 14;clear hBn hkn HC12
  go_wp2_with fail
  refine hK.out _ _ (⟨wfc8,wfc9,wfc12,wfc13,wfc14⟩) (fun hHeld=> ?_);clear hK K
  try simp only[Act.put,sX1,sX2,sX3]
  clear wfc8 wfc9 wfc12 wfc13 wfc14;have HC15:=hZ (qBy [32,98,97,99,107] (.slice b1 b2 b3) d.back wf HRf.o (by decide) (Nat.le_trans hsh.2.2.1 (by decide)) hsh.2.2.2.2.1 hsh.2.2.2.2.2);refine eU 15 fun K hK=> ?_;go_simp;refine HC15.o.mono ?_;rintro e wg ⟨rfl,hBn⟩;have hkn:=KpX.of_below (X:=[]) hBn;have Hbwg:Hid (qAy wg bx 34 [.int .i64 d.kind,.string ⟨d.name.toArray⟩,.int .i64 d.at_,.bool d.object,.bool d.mixed,.bool d.coin,.int .i64 d.wear,.int .i64 d.bind,.int .i64 d.level,.int .i64 d.time,.int .i64 d.chance,.int .i64 d.of_,.slice t1 t2 t3,.slice g1 g2 g3,.slice b1 b2 b3,.slice r1 r2 r3,.slice x1 x2 x3]):=hZ ((hBn.block _ Hbwf.o.lt).trans Hbwf.o);have HBwg:Hid (Below bx w wg):=hZ (HBwf.o.trans (hBn.mono (by have h9:=HBwf.o.size;omega)));have wgc8:wg.cell? ⟨bx,8,none⟩=some (.int .i64 d.level):=Hbwg.o.cell 8;have wgc9:wg.cell? ⟨bx,9,none⟩=some (.int .i64 d.time):=Hbwg.o.cell 9;have wgc12:wg.cell? ⟨bx,12,none⟩=some (.slice t1 t2 t3):=Hbwg.o.cell 12;have wgc13:wg.cell? ⟨bx,13,none⟩=some (.slice g1 g2 g3):=Hbwg.o.cell 13;have wgc14:wg.cell? ⟨bx,14,none⟩=some (.slice b1 b2 b3):=Hbwg.o.cell 14;clear hBn hkn HC15
  go_wp2_with fail
  refine hK.out _ _ (⟨wgc8,wgc9,wgc12,wgc13,wgc14⟩) (fun hHeld=> ?_);clear hK K
  try simp only[Act.put,sX1,sX2,sX3]
  clear wgc8 wgc9 wgc12 wgc13 wgc14;obtain⟨wz,hwz⟩:=eX (wg.alloc (.cells #[.string ⟨(qAz [108,101,118,101,108] d.level).toArray⟩,.string ⟨(qAz [116,105,109,101] d.time).toArray⟩,.string ⟨(qAl d.chance d.of_).toArray⟩,.string ⟨(lsT [32,116,97,107,101] d.take).toArray⟩,.string ⟨(lsT [32,103,105,118,101] d.give).toArray⟩,.string ⟨(lsT [32,98,97,99,107] d.back).toArray⟩] 9));have hBz:Below wg.heap.size wg wz:=by rw[<-hwz];exact qAa _ _
  have HST:Hid (qCe wz (.slice (some ⟨wg.heap.size,0,none⟩) 6 6) [qAz [108,101,118,101,108] d.level,qAz [116,105,109,101] d.time,qAl d.chance d.of_,lsT [32,116,97,107,101] d.take,lsT [32,103,105,118,101] d.give,lsT [32,98,97,99,107] d.back]):=hZ (by rw[<-hwz];exact qCe.lit wg [qAz [108,101,118,101,108] d.level,qAz [116,105,109,101] d.time,qAl d.chance d.of_,lsT [32,116,97,107,101] d.take,lsT [32,103,105,118,101] d.give,lsT [32,98,97,99,107] d.back] 6 rfl (by decide));have Hbwz:Hid (qAy wz bx 34 [.int .i64 d.kind,.string ⟨d.name.toArray⟩,.int .i64 d.at_,.bool d.object,.bool d.mixed,.bool d.coin,.int .i64 d.wear,.int .i64 d.bind,.int .i64 d.level,.int .i64 d.time,.int .i64 d.chance,.int .i64 d.of_,.slice t1 t2 t3,.slice g1 g2 g3,.slice b1 b2 b3,.slice r1 r2 r3,.slice x1 x2 x3]):=hZ ((hBz.block _ Hbwg.o.lt).trans Hbwg.o);have HB:Hid (Below bx w wz):=hZ (HBwg.o.trans (hBz.mono (by have h9:=HBwg.o.size;omega)));have z8:wz.cell? ⟨bx,8,none⟩=some (.int .i64 d.level):=Hbwz.o.cell 8;have z9:wz.cell? ⟨bx,9,none⟩=some (.int .i64 d.time):=Hbwz.o.cell 9;have z12:wz.cell? ⟨bx,12,none⟩=some (.slice t1 t2 t3):=Hbwz.o.cell 12;have z13:wz.cell? ⟨bx,13,none⟩=some (.slice g1 g2 g3):=Hbwz.o.cell 13;have z14:wz.cell? ⟨bx,14,none⟩=some (.slice b1 b2 b3):=Hbwz.o.cell 14;refine eU 16 fun K hK=> ?_;go_simp;clear hwz
  go_wp2_with fail
  refine hK.out _ _ (⟨z8,z9,z12,z13,z14⟩) (fun hHeld=> ?_);clear hK K
  try simp only[Act.put,sX1,sX2,sX3]
  clear z8 z9 z12 z13 z14;refine lU 17 fun K hK=> ?_;go_simp;refine hK.out _ _ ?_;clear hK K
  try simp only[Act.put,sX1,sX2,sX3]
  refine dU ?_;clear hHeld
  go_wp2_with fail
  go_ret;exact⟨⟨_,rfl,by rw[HD.o];exact HST.o⟩,by have h9:=HB.o;rw[<-hbx]at h9;exact h9⟩
end Go.Proofs.YtpmnbcdjoomgcaaDoor
