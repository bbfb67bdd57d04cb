/- The parser's reader: flags or parts, each one at most once. -/
import Derived.Deep.RegionHeld3
import Derived.Lib.Hide
import Derived.Test.YtpmnbcdjoomgcaaDoorQAQOnce
import Derived.Test.YtpmnbcdjoomgcaaDoorQAGSeq
import Derived.Test.YtpmnbcdjoomgcaaDoorQAGApp
import Derived.MapKept
import Derived.WideMake
import Derived.WalkKit
import Derived.WalkArith
set_option linter.unusedVariables false
set_option linter.unusedSimpArgs false
set_option maxHeartbeats 2000000
set_option maxRecDepth 100000
namespace Go.Proofs.YtpmnbcdjoomgcaaDoor
open Go
section
variable {P:Program}{md:Region.Mode}{ops:Array Oper}{Q:Exit->Act->World->Prop}{S:World->Prop}{late:List Nat}
def qAv(P:Program)(md:Region.Mode)(ops:Array Oper)(Q:Exit->Act->World->Prop)(S:World->Prop)(late:List Nat):Nat->Array Bool->Act->World->Prop
 |0,listed,a,w=>Region.ready md ops listed=[]/\Q .normal a w
 |fuel+1,listed,a,w=>
  (Region.ready md ops listed=[]->Q .normal a w)/\
  ∀i∈Region.ready md ops listed,wpOp P ops Q i (fun a' w'=>(i∉late->S w->S w')/\qAv P md ops Q S late fuel (listed.setIfInBounds i true) a' w') a w
theorem qEz:∀(fuel:Nat) (listed:Array Bool) (a:Act) (w:World),qAv P md ops Q S late fuel listed a w->wpAny P md ops Q fuel listed a w
 |0,_,_,_,h=>h
 |fuel+1,_,_,_,h=>⟨h.1,fun i hi=>wpOp_mono (fun a' w' h'=>qEz fuel _ a' w' h'.2) (h.2 i hi)⟩
def qFp(md:Region.Mode)(ops:Array Oper)(i:Nat):Nat->Nat->Bool
 |0,_=>false
 |f+1,l=>match ops[l]? with
  |some o=>o.after.any fun e=>Region.binds md e && (e.on==i||qFp md ops i f e.on)
  |none=>false
def qDH(md:Region.Mode)(ops:Array Oper)(listed:Array Bool):Prop:=∀j,listed.getD j false=true->∀o,ops[j]? =some o->∀e∈o.after,Region.binds md e=true->listed.getD e.on false=true
def qCn(md:Region.Mode)(ops:Array Oper)(listed:Array Bool):Bool:=(List.range ops.size).all fun j=> !(listed.getD j false)||match ops[j]? with
 |some o=>o.after.all fun e=> !(Region.binds md e)||listed.getD e.on false
 |none=>true
theorem qEn{listed:Array Bool}(h:qCn md ops listed=true):qDH md ops listed:=by
 intro j hj o ho e he hb;unfold qCn at h;rw[List.all_eq_true]at h;have h1:=h j (by rw[List.mem_range];exact(Array.getElem?_eq_some_iff.1 ho).1);rw[hj,ho]at h1;simp only[Bool.not_true,Bool.false_or,Array.all_eq_true_iff_forall_mem]at h1;have h2:=h1 e he;rw[hb]at h2;simpa using h2
theorem qDH.set{listed:Array Bool}{i:Nat}(h:qDH md ops listed)(hr:i∈Region.ready md ops listed):qDH md ops (listed.setIfInBounds i true):=by
 intro j hj o ho e he hb;by_cases hij:i=j
 ·subst hij
  obtain⟨_,o',ho',hall⟩:=mem_ready.1 hr;rw[ho]at ho';injection ho' with ho';subst ho';exact getD_set_true (hall e he hb)
 ·rw[getD_set_ne false hij]at hj
  exact getD_set_true (h j hj o ho e he hb)
theorem qCR{i:Nat}{listed:Array Bool}(hc:qDH md ops listed):∀(f l:Nat),qFp md ops i f l=true->(∀o,ops[l]? =some o->∀e∈o.after,Region.binds md e=true->listed.getD e.on false=true)->listed.getD i false=true
 |0,l,h,_=>by simp[qFp]at h
 |f+1,l,h,hl=>by
  unfold qFp at h;cases ho:ops[l]? with
  |none=>rw[ho]at h;simp at h
  |some o=>
   rw[ho]at h;simp only[Array.any_eq_true',Bool.and_eq_true,Bool.or_eq_true,beq_iff_eq]at h;obtain⟨e,he,hb,h⟩:=h;have h1:=hl o ho e he hb;rcases h with h|h
   ·rw[<-h];exact h1
   ·exact qCR hc f e.on h (hc e.on h1)
def qCB(md:Region.Mode)(ops:Array Oper)(late:List Nat)(i:Nat):Bool:=late.all fun l=>i != l && qFp md ops i ops.size l
theorem qGS{i j:Nat}{listed:Array Bool}(hc:qDH md ops listed)(hw:qCB md ops late i=true)(hr:i∈Region.ready md ops listed)(hj:j∈Region.ready md ops listed):j∉late:=fun hl=>by
 unfold qCB at hw;rw[List.all_eq_true]at hw;have h1:=hw j hl;simp only[Bool.and_eq_true]at h1;have h2:=qCR hc _ _ h1.2 (fun o ho=>by
  obtain⟨_,o',ho',hall⟩:=mem_ready.1 hj;rw[ho]at ho';injection ho' with ho';subst ho';exact hall)
 have h0:=(mem_ready.1 hr).1;rcases Nat.lt_or_ge i listed.size with h'|h'
 ·simp[h']at h0 h2
  rw[h0]at h2;cases h2
 ·simp[Array.getElem?_eq_none h']at h2
theorem qDs{i:Nat}{oi:Oper}{v:Value}(hi:ops[i]? =some oi)(hsel:∀(j:Nat) (o:Oper) cs b,ops[j]? =some o->o.op≠ .select cs b)
 (hQ:∀c a w,Q (.panic c) (a.put oi.dst v) w->Q (.panic c) a w)(hwt:qCB md ops late i=true)(fuel:Nat):
 ∀(listed:Array Bool) (a:Act) (w:World),qDH md ops listed->
  (∀j oj,ops[j]? =some oj->j≠i->listed.getD j true=false->(∀e∈oj.after,Region.binds md e=true->e.on≠i)->oi.apart ops oj=true)->
  i∈Region.ready md ops listed->YieldsIf P ops S oi v a->S w->
  qAv P md ops Q S late fuel (listed.setIfInBounds i true) (a.put oi.dst v) w->qAv P md ops Q S late (fuel+1) listed a w:=by
 induction fuel with
 |zero=>
  intro listed a w hc _ hr hy hS H;refine⟨fun h=>absurd hr (by rw[h];simp),fun j hj=> ?_⟩;by_cases hji:j=i
  ·subst hji
   exact hy.wpOp hi hS ⟨fun _ _=>hS,H⟩
  ·exact absurd (ready_mono hj hji) (by rw[H.1];simp)
 |succ fuel ih=>
  intro listed a w hc hfree hr hy hS H;refine⟨fun h=>absurd hr (by rw[h];simp),fun j hj=> ?_⟩;by_cases hji:j=i
  ·subst hji
   exact hy.wpOp hi hS ⟨fun _ _=>hS,H⟩
  ·have hjl:j∉late:=qGS hc hwt hr hj
   obtain⟨hjun,oj,hoj,hall⟩:=mem_ready.1 hj;have hnot:∀e∈oj.after,Region.binds md e=true->e.on≠i:=by
    intro e he hb heq;have h1:=hall e he hb;have h0:=(mem_ready.1 hr).1;rw[heq]at h1;rcases Nat.lt_or_ge i listed.size with h'|h'
    ·simp[h']at h0 h1
     rw[h0]at h1;cases h1
    ·simp[Array.getElem?_eq_none h']at h1
   have h2:=wpOp_putIf hoj (hfree j oj hoj hji hjun hnot) (fun cs b=>hsel i oi cs b hi) (fun cs b=>hsel j oj cs b hoj) hQ hy (H.2 j (ready_mono hj hji));refine wpOp_mono (fun a' w' h3=>⟨h3.2.1,ih _ a' w' (hc.set hj) (fun k ok hk hki hun hno=> ?_) (ready_mono hr (Ne.symm hji)) h3.1 (h3.2.1 hjl hS) ?_⟩) h2
   ·refine hfree k ok hk hki ?_ hno
    by_cases hjk:j=k
    ·subst hjk;exact hjun
    ·rw[getD_set_ne true hjk]at hun;exact hun
   ·rw[Array.setIfInBounds_comm _ _ hji]
    exact h3.2.2
theorem qF5{i:Nat}{oi:Oper}{v:Value}(hi:ops[i]? =some oi)(hsel:∀(j:Nat) (o:Oper) cs b,ops[j]? =some o->o.op≠ .select cs b)
 (hQ:∀c a w,Q (.panic c) (a.put oi.dst v) w->Q (.panic c) a w)(fuel:Nat):
 ∀(listed:Array Bool) (a:Act) (w:World), 
  (∀j oj,ops[j]? =some oj->j≠i->listed.getD j true=false->(∀e∈oj.after,Region.binds md e=true->e.on≠i)->oi.apart ops oj=true)->
  i∈Region.ready md ops listed->YieldsIf P ops (fun _=>True) oi v a->
  qAv P md ops Q S late fuel (listed.setIfInBounds i true) (a.put oi.dst v) w->qAv P md ops Q S late (fuel+1) listed a w:=by
 induction fuel with
 |zero=>
  intro listed a w _ hr hy H;refine⟨fun h=>absurd hr (by rw[h];simp),fun j hj=> ?_⟩;by_cases hji:j=i
  ·subst hji
   exact hy.wpOp hi trivial ⟨fun _ h=>h,H⟩
  ·exact absurd (ready_mono hj hji) (by rw[H.1];simp)
 |succ fuel ih=>
  intro listed a w hfree hr hy H;refine⟨fun h=>absurd hr (by rw[h];simp),fun j hj=> ?_⟩;by_cases hji:j=i
  ·subst hji
   exact hy.wpOp hi trivial ⟨fun _ h=>h,H⟩
  ·obtain⟨hjun,oj,hoj,hall⟩:=mem_ready.1 hj
   have hnot:∀e∈oj.after,Region.binds md e=true->e.on≠i:=by
    intro e he hb heq;have h1:=hall e he hb;have h0:=(mem_ready.1 hr).1;rw[heq]at h1;rcases Nat.lt_or_ge i listed.size with h'|h'
    ·simp[h']at h0 h1
     rw[h0]at h1;cases h1
    ·simp[Array.getElem?_eq_none h']at h1
   have h2:=wpOp_putIf hoj (hfree j oj hoj hji hjun hnot) (fun cs b=>hsel i oi cs b hi) (fun cs b=>hsel j oj cs b hoj) hQ hy (H.2 j (ready_mono hj hji));refine wpOp_mono (fun a' w' h3=>⟨h3.2.1,ih _ a' w' (fun k ok hk hki hun hno=> ?_) (ready_mono hr (Ne.symm hji)) h3.1 ?_⟩) h2
   ·refine hfree k ok hk hki ?_ hno
    by_cases hjk:j=k
    ·subst hjk;exact hjun
    ·rw[getD_set_ne true hjk]at hun;exact hun
   ·rw[Array.setIfInBounds_comm _ _ hji]
    exact h3.2.2
theorem qAb(i d:Nat){oi:Oper}{v:Value}{fuel:Nat}{listed:Array Bool}{tmps:Array Value}{ds:List Deferred}{w:World}(hi:ops[i]? =some oi)(hd:oi.dst=some d)
 (hs:Region.noSelect ops=true)(hf:Region.free md ops listed i=true)(hr:(Region.ready md ops listed).contains i=true)(hwt:qCB md ops late i=true)(hc:qCn md ops listed=true)
 (hQ:∀c a w,Q (.panic c) (a.put oi.dst v) w->Q (.panic c) a w)(hw:Region.wanted oi (yielded ops tmps)=true)(hy:∀w,S w->(execOp (Act.eval ⟨tmps,ds⟩) oi).run P w=.ok (.value v) w)(hS:S w)
 (h:qAv P md ops Q S late fuel (listed.setIfInBounds i true) ⟨tmps.setIfInBounds d v,ds⟩ w):qAv P md ops Q S late (fuel+1) listed ⟨tmps,ds⟩ w:=
 qDs hi (Region.noSelect_spec hs) hQ hwt fuel listed _ w (qEn hc) (Region.free_spec hi hf) (by simpa using hr) (Or.inl ⟨hw,hy⟩) hS (by rw[hd];exact h)
theorem qJc(i d:Nat){oi:Oper}{v:Value}{fuel:Nat}{listed:Array Bool}{tmps:Array Value}{ds:List Deferred}{w:World}(hi:ops[i]? =some oi)(hd:oi.dst=some d)
 (hs:Region.noSelect ops=true)(hf:Region.free md ops listed i=true)(hr:(Region.ready md ops listed).contains i=true)
 (hQ:∀c a w,Q (.panic c) (a.put oi.dst v) w->Q (.panic c) a w)(hw:Region.wanted oi (yielded ops tmps)=true)(hy:∀w,(execOp (Act.eval ⟨tmps,ds⟩) oi).run P w=.ok (.value v) w)
 (h:qAv P md ops Q S late fuel (listed.setIfInBounds i true) ⟨tmps.setIfInBounds d v,ds⟩ w):qAv P md ops Q S late (fuel+1) listed ⟨tmps,ds⟩ w:=
 qF5 hi (Region.noSelect_spec hs) hQ fuel listed _ w (Region.free_spec hi hf) (by simpa using hr) (Or.inl ⟨hw,fun w _=>hy w⟩) (by rw[hd];exact h)
theorem qK7(i d:Nat){oi:Oper}{fuel:Nat}{listed:Array Bool}{tmps:Array Value}{ds:List Deferred}{w:World}(hi:ops[i]? =some oi)(hd:oi.dst=some d)
 (hs:Region.noSelect ops=true)(hf:Region.free md ops listed i=true)(hr:(Region.ready md ops listed).contains i=true)(hwt:qCB md ops late i=true)(hc:qCn md ops listed=true)
 (hQ:∀c a w,Q (.panic c) (a.put oi.dst undef) w->Q (.panic c) a w)(hw:Region.wanted oi (yielded ops tmps)=false)(hS:S w)
 (h:qAv P md ops Q S late fuel (listed.setIfInBounds i true) ⟨tmps.setIfInBounds d undef,ds⟩ w):qAv P md ops Q S late (fuel+1) listed ⟨tmps,ds⟩ w:=
 qDs hi (Region.noSelect_spec hs) hQ hwt fuel listed _ w (qEn hc) (Region.free_spec hi hf) (by simpa using hr) (Or.inr ⟨hw,rfl⟩) hS (by rw[hd];exact h)
theorem qLg{listed:Array Bool}{a:Act}{w:World}(hr:Region.ready md ops listed=[])(h:Q .normal a w):∀fuel,qAv P md ops Q S late fuel listed a w
 |0=>⟨hr,h⟩
 |_+1=>⟨fun _=>h,by rw[hr];simp⟩
theorem qK4(i:Nat){o:Oper}{fuel:Nat}{listed:Array Bool}{a:Act}{w:World}(hr:Region.ready md ops listed=[i])(ho:ops[i]? =some o)
 (h:∀K':Act->World->Prop,Shut (∀a w,S w->(S w->qAv P md ops Q S late fuel (listed.setIfInBounds i true) a w)->K' a w)->if Region.wanted o (yielded ops a.tmps)=true then Oper.wp P o a w K' Q else K' (a.put o.dst undef) w):
 qAv P md ops Q S late (fuel+1) listed a w:=by
 refine⟨fun h0=>absurd (hr.symm.trans h0) (by simp),fun j hj=> ?_⟩;rw[hr,List.mem_singleton]at hj;subst hj;exact wpOp_step ho (fun K' hK=>h K' (fun a w hS hW=>hK a w ⟨fun _ _=>hS,hW hS⟩))
theorem qLf(i:Nat){o:Oper}{fuel:Nat}{listed:Array Bool}{a:Act}{w:World}(hr:Region.ready md ops listed=[i])(hl:i∈late)(ho:ops[i]? =some o)
 (h:∀K':Act->World->Prop,Shut (∀a w,qAv P md ops Q S late fuel (listed.setIfInBounds i true) a w->K' a w)->if Region.wanted o (yielded ops a.tmps)=true then Oper.wp P o a w K' Q else K' (a.put o.dst undef) w):
 qAv P md ops Q S late (fuel+1) listed a w:=by
 refine⟨fun h0=>absurd (hr.symm.trans h0) (by simp),fun j hj=> ?_⟩;rw[hr,List.mem_singleton]at hj;subst hj;exact wpOp_step ho (fun K' hK=>h K' (fun a w hW=>hK a w ⟨fun h=>absurd hl h,hW⟩))
theorem qAs{id:Nat}{a:Act}{w:World}(late:List Nat)(S:World->Prop)(hm:P.follows .mixedOrders=true)(hS:S w.drew)
 (h:S w.drew->qAv P .any ops Q S late ops.size (Array.replicate ops.size false) a w.drew):(Code.region id ops true).wp P Q a w:=
 wp_region_any hm (qEz _ _ _ _ (h hS))
end
/-- short names -/
theorem sX1{α:Type _}(l:List α)(i:Nat)(a:α):l.toArray.setIfInBounds i a=(l.set i a).toArray:=List.setIfInBounds_toArray ..
theorem sX2{α:Type _}{x:α}{xs:List α}{a:α}:(x::xs).set 0 a=a::xs:=List.set_cons_zero ..
theorem sX3{α:Type _}{x:α}{xs:List α}{i:Nat}{a:α}:(x::xs).set (i+1) a=x::xs.set i a:=List.set_cons_succ ..
section
variable {P:Program}{md:Region.Mode}{ops:Array Oper}{Q:Exit->Act->World->Prop}{S:World->Prop}{late:List Nat}
theorem pU(i d:Nat){oi:Oper}{v:Value}{T:Array Value}{fuel:Nat}{listed:Array Bool}{tmps:Array Value}{ds:List Deferred}{w:World}
    (h:qAv P md ops Q S late fuel (listed.setIfInBounds i true) ⟨T,ds⟩ w)
    (hi:ops[i]? =some oi:=by rfl)(hd:oi.dst=some d:=by rfl)
    (hy:∀w,(execOp (Act.eval ⟨tmps,ds⟩) oi).run P w=.ok (.value v) w:=by(intro w;go_simp;first|done|with_reducible rfl))
    (hT:tmps.setIfInBounds d v=T:=by(simp only[List.setIfInBounds_toArray,List.set_cons_zero,List.set_cons_succ];try rfl))
    (hs:Region.noSelect ops=true:=by kernel_rfl)(hf:Region.free md ops listed i=true:=by kernel_rfl)(hr:(Region.ready md ops listed).contains i=true:=by kernel_rfl)
    (hQ:∀c a w,Q (.panic c) (a.put oi.dst v) w->Q (.panic c) a w:=by exact fun _ _ _ h=>h)(hw:Region.wanted oi (yielded ops tmps)=true:=by rfl):qAv P md ops Q S late (fuel+1) listed ⟨tmps,ds⟩ w:=
  qJc i d hi hd hs hf hr hQ hw hy (hT▸h)
theorem tU(i d:Nat){oi:Oper}{v:Value}{T:Array Value}{fuel:Nat}{listed:Array Bool}{tmps:Array Value}{ds:List Deferred}{w:World}{A:Addr}{x:Value}(c:∀w,S w->w.cell? A=some x)
    (h:qAv P md ops Q S late fuel (listed.setIfInBounds i true) ⟨T,ds⟩ w)
    (hi:ops[i]? =some oi:=by rfl)(hd:oi.dst=some d:=by rfl)
    (y:∀w,w.cell? A=some x->(execOp (Act.eval ⟨tmps,ds⟩) oi).run P w=.ok (.value v) w:=by(intro w x0;go_simp;first|done|with_reducible rfl))
    (hT:tmps.setIfInBounds d v=T:=by(simp only[List.setIfInBounds_toArray,List.set_cons_zero,List.set_cons_succ];try rfl))
    (hs:Region.noSelect ops=true:=by kernel_rfl)(hf:Region.free md ops listed i=true:=by kernel_rfl)(hr:(Region.ready md ops listed).contains i=true:=by kernel_rfl)(hwt:qCB md ops late i=true:=by kernel_rfl)(hc:qCn md ops listed=true:=by kernel_rfl)
    (hQ:∀c a w,Q (.panic c) (a.put oi.dst v) w->Q (.panic c) a w:=by exact fun _ _ _ h=>h)(hw:Region.wanted oi (yielded ops tmps)=true:=by rfl)(hS:S w:=by assumption):qAv P md ops Q S late (fuel+1) listed ⟨tmps,ds⟩ w:=
  qAb i d hi hd hs hf hr hwt hc hQ hw (fun w s=>y w (c w s)) hS (hT▸h)
theorem tV(i d:Nat){oi:Oper}{v:Value}{T:Array Value}{fuel:Nat}{listed:Array Bool}{tmps:Array Value}{ds:List Deferred}{w:World}{A B:Addr}{x z:Value}(c:∀w,S w->w.cell? A=some x)(c':∀w,S w->w.cell? B=some z)
    (h:qAv P md ops Q S late fuel (listed.setIfInBounds i true) ⟨T,ds⟩ w)
    (hi:ops[i]? =some oi:=by rfl)(hd:oi.dst=some d:=by rfl)
    (y:∀w,w.cell? A=some x->w.cell? B=some z->(execOp (Act.eval ⟨tmps,ds⟩) oi).run P w=.ok (.value v) w:=by(intro w x0 x1;go_simp;first|done|with_reducible rfl))
    (hT:tmps.setIfInBounds d v=T:=by(simp only[List.setIfInBounds_toArray,List.set_cons_zero,List.set_cons_succ];try rfl))
    (hs:Region.noSelect ops=true:=by kernel_rfl)(hf:Region.free md ops listed i=true:=by kernel_rfl)(hr:(Region.ready md ops listed).contains i=true:=by kernel_rfl)(hwt:qCB md ops late i=true:=by kernel_rfl)(hc:qCn md ops listed=true:=by kernel_rfl)
    (hQ:∀c a w,Q (.panic c) (a.put oi.dst v) w->Q (.panic c) a w:=by exact fun _ _ _ h=>h)(hw:Region.wanted oi (yielded ops tmps)=true:=by rfl)(hS:S w:=by assumption):qAv P md ops Q S late (fuel+1) listed ⟨tmps,ds⟩ w:=
  qAb i d hi hd hs hf hr hwt hc hQ hw (fun w s=>y w (c w s) (c' w s)) hS (hT▸h)
theorem sU(i d:Nat){oi:Oper}{T:Array Value}{fuel:Nat}{listed:Array Bool}{tmps:Array Value}{ds:List Deferred}{w:World}
    (h:qAv P md ops Q S late fuel (listed.setIfInBounds i true) ⟨T,ds⟩ w)
    (hi:ops[i]? =some oi:=by rfl)(hd:oi.dst=some d:=by rfl)
    (hT:tmps.setIfInBounds d undef=T:=by(simp only[List.setIfInBounds_toArray,List.set_cons_zero,List.set_cons_succ];try rfl))
    (hs:Region.noSelect ops=true:=by kernel_rfl)(hf:Region.free md ops listed i=true:=by kernel_rfl)(hr:(Region.ready md ops listed).contains i=true:=by kernel_rfl)(hwt:qCB md ops late i=true:=by kernel_rfl)(hc:qCn md ops listed=true:=by kernel_rfl)
    (hQ:∀c a w,Q (.panic c) (a.put oi.dst undef) w->Q (.panic c) a w:=by exact fun _ _ _ h=>h)(hw:Region.wanted oi (yielded ops tmps)=false:=by rfl)(hS:S w:=by assumption):qAv P md ops Q S late (fuel+1) listed ⟨tmps,ds⟩ w:=
  qK7 i d hi hd hs hf hr hwt hc hQ hw hS (hT▸h)
theorem eU(i:Nat){o:Oper}{fuel:Nat}{listed:Array Bool}{a:Act}{w:World}
    (h:∀K':Act->World->Prop,Shut (∀a w,S w->(S w->qAv P md ops Q S late fuel (listed.setIfInBounds i true) a w)->K' a w)->if Region.wanted o (yielded ops a.tmps)=true then Oper.wp P o a w K' Q else K' (a.put o.dst undef) w)
    (ho:ops[i]? =some o:=by rfl)(hr:Region.ready md ops listed=[i]:=by kernel_rfl):qAv P md ops Q S late (fuel+1) listed a w:=qK4 i hr ho h
theorem lU(i:Nat){o:Oper}{fuel:Nat}{listed:Array Bool}{a:Act}{w:World}
    (h:∀K':Act->World->Prop,Shut (∀a w,qAv P md ops Q S late fuel (listed.setIfInBounds i true) a w->K' a w)->if Region.wanted o (yielded ops a.tmps)=true then Oper.wp P o a w K' Q else K' (a.put o.dst undef) w)
    (ho:ops[i]? =some o:=by rfl)(hr:Region.ready md ops listed=[i]:=by kernel_rfl)(hl:i∈late:=by decide):qAv P md ops Q S late (fuel+1) listed a w:=qLf i hr hl ho h
theorem dU{listed:Array Bool}{a:Act}{w:World}{fuel:Nat}(h:Q .normal a w)(hr:Region.ready md ops listed=[]:=by kernel_rfl):qAv P md ops Q S late fuel listed a w:=qLg hr h _
end
open Go.RowKit
theorem qJ2:qDT Tryd.prog 32 76 2 16:=qDT.mk (z:=.agg #[.int .i64 0,.int .i64 0]) Tryd.underlying32 (by kernel_rfl) rfl (by decide)
theorem qCA.of_own{w:World}{base:Nat}{v:Value}{l:List (Int×Int)}(h:w.ownsRow base 76 2 v l.length (l.flatMap brC)):qCA w v l:=by
 refine TSl.of_own (css:=l.map brC) (base:=base) (n:=l.length) (by rw[<-List.flatMap_def];exact h) rfl (fun cs hc=>by obtain⟨x,_,rfl⟩:=List.mem_map.1 hc;rfl) (by simp) ?_;intro j h1 h2;simp
structure qJ4(w:World)(d:Dc)(y:Ls):Prop where
 t:qAD 68 w y.t d.take
 g:qAD 68 w y.g d.give
 b:qAD 68 w y.b d.back
 r:qAU 68 58 w y.r d.rows
theorem qJ4.kp{X:List TypeId}{w w':World}{d:Dc}{y:Ls}(h:qJ4 w d y)(hk:KpX X w w')(h1:68∉X)(h3:58∉X):qJ4 w' d y:=
 ⟨h.t.kp hk h1,h.g.kp hk h1,h.b.kp hk h1,h.r.kp hk h1 h3⟩
theorem qJ4.kr{w w':World}{d:Dc}{y:Ls}(h:qJ4 w d y)(hk:KpX [96] w w'):qJ4 w' d y:=h.kp hk (by decide) (by decide)
def qHu(d:Dc)(l:List Tok):Rd Dc:=match qDK l with|.error z=> .error z|.ok (x,r)=> .ok ({ d with brs:=x },r)
theorem qIg(l:List Tok):qDK l=match qBg l with
 |.error z=> .error z
 |.ok (n,l2)=>match qAR 2 [58] l2 with
  |.error z=> .error z
  |.ok (_,l3)=>match qBg l3 with
   |.error z=> .error z
   |.ok (m,l4)=>if isT 2 [44] l4 then qH9 [(n,m)] (qDK (l4.drop 1))else .ok ([(n,m)],l4):=by
 cases l with
 |nil=>rfl
 |cons a l=>
  rw[qDK.eq_def];unfold qBg qAR;by_cases ha:a.is 1 []=true
  ·simp only[if_pos ha]
   cases l with
   |nil=>rfl
   |cons b l=>
    by_cases hb:b.is 2 [58]=true
    ·simp only[if_pos hb]
     cases l with
     |nil=>rfl
     |cons c l=>
      by_cases hc:c.is 1 []=true
      ·simp only[if_pos hc]
       cases l with
       |nil=>rfl
       |cons e l=>
        by_cases he:e.is 2 [44]=true
        ·have he2:isT 2 [44] (e::l)=true:=he
         simp only[if_pos he,if_pos he2,List.drop_succ_cons,List.drop_zero];cases qDK l with
         |error z=>rfl
         |ok y=>rfl
        ·have he2:¬isT 2 [44] (e::l)=true:=he
         simp only[if_neg he,if_neg he2]
      ·simp only[if_neg hc]
    ·simp only[if_neg hb]
  ·simp only[if_neg ha]
theorem qF3(b N:Nat)(d:Dc)(y:Ls)(l:List Tok)(w:World)(hr:Rdr w b N l (dcC d y))(hy:qJ4 w d y)(hv:y.x=.slice none 0 0)(hl:l.length<=100000):
 Calls Tryd.prog 77 #[.pointer (some ⟨b,0,none⟩)] w (qBj b N (qHu d l) w):=by
 have HR:=hZ hr;have hlt:=hr.lt;have H0:=hZ hl;have HY:=hZ hy;have HV:=hZ hv;clear hr hl hy hv
 go_enter Tryd.func77,Tryd.ntmps77
 go_wp2_with fail
 go_loopw [] (fun wr=>∃(acc:List (Int×Int)) (v:Value) (l1:List Tok),Hid (qDK l=qH9 acc (qDK l1))/\Hid (acc.length+l1.length<=100000)/\Hid (Rdr wr b N l1 (dcC d { y with x:=v }))/\
  Hid (wr.ownsRow w.heap.size 76 2 v acc.length (acc.flatMap brC))/\Hid (qJ4 wr d y)/\Hid (qAg (fun k=>k=b) w wr)) (fun wr=>qGp wr b)
 case atStart=>exact⟨[],_,l,hZ (qE3 _).symm,hZ (by have:=H0.o;simp;exact this),hZ (by have:=HR.o;rw[<-HV.o];exact this),hZ (World.ownsRow_nil _ _ _ _),HY,hZ (qAg.refl _ _)⟩
 case round=>
  obtain⟨acc,v,l1,HE,HL,HR1,HO,HY1,HK⟩:=hrel;clear HR HY;obtain⟨v1,hb1,ht1⟩:=HR1.o;have HC:=hZ (qA6 b N v1 _ l1 wr hb1 ht1);clear hb1 ht1;have HQ:=hZ (qIg l1)
  go_wp2_with fail
  refine HC.o.mono ?_;rintro e w2 (⟨n,l2,h1,rfl,hr2⟩|⟨z,h1,rfl,hr2⟩);rotate_left
  ·rw[h1]at HQ
   have HB:=hZ (HK.o.trans hr2);clear hr2 h1
   go_wp2_with fail
   exact⟨rfl,.inr ⟨z,by unfold qHu;rw[HE.o,HQ.o];rfl,rfl,HB.o⟩⟩
  rw[h1]at HQ;simp only[]at HQ;have hl2:=qBu h1;have HO2:=hZ (hr2.2.own HO.o (fun k hk he=>by have:=(HO.o.lt k hk).1;omega));have HY2:=hZ (HY1.o.kr (HR1.o.kpx hr2.2));have HK2:=hZ (HK.o.trans hr2.2);have HR2:Hid (Rdr w2 b N l2 _):=hZ hr2.1;obtain⟨v2,hb2,ht2⟩:=HR2.o;have HC2:=hZ (qAK b N v2 _ l2 2 [58] w2 hb2 ht2);clear hr2 h1 HO HY1 HK hb2 ht2
  go_wp2_with fail
  refine HC2.o.mono ?_;rintro e w3 (⟨t3,l3,h1,rfl,hr3⟩|⟨z,h1,rfl,hr3⟩);rotate_left
  ·rw[h1]at HQ
   have HB:=hZ (HK2.o.trans hr3);clear hr3 h1
   go_wp2_with fail
   exact⟨rfl,.inr ⟨z,by unfold qHu;rw[HE.o,HQ.o];rfl,rfl,HB.o⟩⟩
  rw[h1]at HQ;simp only[]at HQ;have hl3:=qAu h1;have HO3:=hZ (hr3.2.own HO2.o (fun k hk he=>by have:=(HO2.o.lt k hk).1;omega));have HY3:=hZ (HY2.o.kr (HR2.o.kpx hr3.2));have HK3:=hZ (HK2.o.trans hr3.2);have HR3:Hid (Rdr w3 b N l3 _):=hZ hr3.1;clear hr3 h1 HO2 HY2 HK2 HR2 HC2 HC;unfold qEW;obtain⟨wd,hwd⟩:=eX w3.drew;have hBd:Below w3.heap.size w3 wd:=by rw[<-hwd];exact(Below.refl _ _).drew
  have HOd:=hZ ((qAg.of_below (S:=fun _=>False) hBd).own HO3.o (fun _ _ h=>h));have HYd:=hZ (HY3.o.kp (KpX.of_below (X:=[]) hBd) (by simp) (by simp));have HKd:=hZ (HK3.o.trans (qAg.of_below hBd));have HRd:=hZ (HR3.o.below hBd);obtain⟨vd,hbd,htd⟩:=HRd.o;have cd:wd.cell? ⟨b,18,none⟩=some v:=hbd.cell 18;have c3:w3.cell? ⟨b,18,none⟩=some v:=by rw[<-hwd]at cd;exact cd
  have HC3:=hZ (qA6 b N vd _ l3 wd hbd htd);clear hBd hbd htd HO3 HY3 HK3 HR3
  go_wp2_with fail
  refine qAs [15] (fun W=>W.cell? ⟨b,18,none⟩=some v) (by kernel_rfl) (c3) (fun hHeld=> ?_);rw[hwd]at hHeld ⊢;clear hwd c3;refine pU 0 7 ?_;refine pU 1 8 ?_;refine pU 2 9 ?_;refine pU 3 10 ?_;refine pU 4 11 ?_;refine qAb 5 12 (v:= ?_) rfl rfl (by kernel_rfl) (by kernel_rfl) (by kernel_rfl) (by kernel_rfl) (by kernel_rfl) (fun _ _ _ h=>h) (by rfl) ?_ (by assumption) ?_;rotate_left
  ·(intro w hSw;go_simp;first|done|with_reducible rfl)
  simp only[sX1,sX2,sX3];refine pU 6 13 ?_;refine pU 7 14 ?_;refine eU 8 fun K hK=> ?_;go_simp;refine HC3.o.mono ?_;rintro e w4 (⟨m,l4,h1,rfl,hr4⟩|⟨z,h1,rfl,hr4⟩);rotate_left
  ·rw[h1]at HQ
   have HB:=hZ (HKd.o.trans hr4);clear hr4 h1
   go_wp2_with fail
   exact⟨rfl,.inr ⟨z,by unfold qHu;rw[HE.o,HQ.o];rfl,rfl,HB.o⟩⟩
  rw[h1]at HQ;simp only[]at HQ;have hl4:=qBu h1;have HO4:=hZ (hr4.2.own HOd.o (fun k hk he=>by have:=(HOd.o.lt k hk).1;omega));have HY4:=hZ (HYd.o.kr (HRd.o.kpx hr4.2));have HK4:=hZ (HKd.o.trans hr4.2);have HR4:Hid (Rdr w4 b N l4 _):=hZ hr4.1;obtain⟨v4,hb4,ht4⟩:=HR4.o;have c4:w4.cell? ⟨b,18,none⟩=some v:=hb4.cell 18;clear hr4 h1 HOd HYd HKd HRd HC3 hb4 ht4 cd hHeld
  go_wp2_with fail
  refine hK.out _ _ (c4) (fun hHeld=> ?_);clear hK K
  try simp only[Act.put,sX1,sX2,sX3]
  clear c4;obtain⟨w5,hw5⟩:=eX (w4.alloc (.cells #[.int .i64 n,.int .i64 m] 76));have hB5:Below w4.heap.size w4 w5:=by rw[<-hw5];exact qAa _ _
  have HW5:Hid (qAy w5 w4.heap.size 76 (brC (n,m))):=hZ (by rw[<-hw5];exact qAy.new _ _ _);have HO5:=hZ ((qAg.of_below (S:=fun _=>False) hB5).own HO4.o (fun _ _ h=>h));have HY5:=hZ (HY4.o.kp (KpX.of_below (X:=[]) hB5) (by simp) (by simp));have HK5:=hZ (HK4.o.trans (qAg.of_below hB5));have HR5:=hZ (HR4.o.below hB5);obtain⟨v5,hb5,ht5⟩:=HR5.o;have c5:w5.cell? ⟨b,18,none⟩=some v:=hb5.cell 18;have hac:acc.length<=100000:=by have:=HL.o;omega
  clear hB5 hb5 ht5 HO4 HY4 HK4 HR4;refine pU 9 16 ?_;refine eU 10 fun K hK=> ?_;go_simp;clear hw5 hHeld
  go_wp2_with fail
  refine hK.out _ _ (c5) (fun hHeld=> ?_);clear hK K
  try simp only[Act.put,sX1,sX2,sX3]
  clear c5;refine eU 11 fun K hK=> ?_;refine qBS (W0:=w5) qJ2 rfl _ _ rfl (brC (n,m)) w4.heap.size _ _ _ rfl rfl HW5.o rfl (by simp[brC,Value.oneCell']) HO5.o (Below.refl _ _) HK5.o.size (by omega) (by omega) ?_;intro g6 cap6 w6 HO6 HB6 HF6 hcap6 hcap6b;have HX6:=hZ (KpX.own (X:=[76]) HO5.o HF6.o (by simp));have HY6:=hZ (HY5.o.kp HX6.o (by decide) (by decide));have HK6:=hZ (HK5.o.behind HB6.o);have HR6:=hZ (HR5.o.kp HX6.o (by decide) (by decide));clear HO5 HY5 HK5 HR5 HX6 HB6 HF6 HW5;obtain⟨v6,hb6,ht6⟩:=HR6.o;have c6:w6.cell? ⟨b,18,none⟩=some v:=hb6.cell 18;have f6:=hb6.frozen 18;obtain⟨acc',ha'⟩:∃acc',acc'=acc++[(n,m)]:=⟨_,rfl⟩;have hal:acc.length+1=acc'.length:=by rw[ha'];simp
  have hfl:acc.flatMap brC++brC (n,m)=acc'.flatMap brC:=by rw[ha'];simp
  rw[hal,hfl]at HO6;rw[hal];have Ha:=hZ ha';have Hal:=hZ hal;have HS:=hZ (hb6.setOk ht6 16 (.slice (some ⟨g6,0,none⟩) acc'.length cap6));obtain⟨w7,hw7⟩:=eX (w6.setCell ⟨b,18,none⟩ (.slice (some ⟨g6,0,none⟩) acc'.length cap6));rw[show(16+2:Nat)=18 from rfl,hw7]at HS;have HX7:=hZ (hb6.kpx HS.o.2);have HO7:=hZ (HS.o.2.own HO6.o (fun k hk he=>by have:=(HO6.o.lt k hk).1;omega));have HY7:=hZ (HY6.o.kr HX7.o);have HK7:=hZ (HK6.o.trans HS.o.2);obtain⟨v7,hb7,ht7⟩:=HS.o.1;have HC7:=hZ (qCy b N v7 _ l4 [44] w7 hb7 ht7);have HR7:Hid (Rdr w7 b N l4 (dcC d { y with x:=.slice (some ⟨g6,0,none⟩) acc'.length cap6 })):=hZ ⟨v7,hb7,ht7⟩;clear hb6 ht6 HS HX7 HO6 HY6 HK6 HR6 hb7 ht7 hHeld ha' hal hfl hac hcap6 hcap6b
  go_wp2_with fail
  refine hK.out _ _ (c6) (fun hHeld=> ?_);clear hK K
  try simp only[Act.put,sX1,sX2,sX3]
  refine pU 12 19 ?_;refine pU 13 20 ?_;refine pU 14 21 ?_;refine lU 15 fun K hK=> ?_;go_simp;refine hK.out _ _ ?_;clear hK K
  try simp only[Act.put,sX1,sX2,sX3]
  refine dU ?_;clear hHeld;clear hw7 c6 f6;by_cases hs:isT 2 [44] l4=true
  ·simp only[hs,if_true]at HQ
   unfold qIT at HC7;rw[hs,if_pos rfl]at HC7;clear hs
   go_wp2_with fail
   refine HC7.o.mono ?_;rintro e w10 ⟨rfl,hr10⟩;have HO10:=hZ (hr10.2.own HO7.o (fun k hk he=>by have:=(HO7.o.lt k hk).1;omega));have HY10:=hZ (HY7.o.kr (HR7.o.kpx hr10.2));have HK10:=hZ (HK7.o.trans hr10.2);have HR10:Hid (Rdr w10 b N _ _):=hZ hr10.1;clear hr10 HC7 HR7 HK7 HO7 HY7
   go_wp2_with fail
   go_roundw
   case rel=>
    exact⟨acc',_,_,hZ (by rw[HE.o,HQ.o,qDP,Ha.o]),hZ (by have:=HL.o;have:=Hal.o;simp;omega),HR10,HO10,HY10,HK10⟩
   case measure=>
    rw[HR10.o.len,HR1.o.len];simp;omega
  ·rw[Bool.not_eq_true]at hs
   simp only[hs]at HQ;unfold qIT at HC7;rw[hs,if_neg (by simp)]at HC7;clear hs
   go_wp2_with fail
   refine HC7.o.mono ?_;rintro e w10 ⟨rfl,hr10⟩;have HO10:=hZ (hr10.2.own HO7.o (fun k hk he=>by have:=(HO7.o.lt k hk).1;omega));have HY10:=hZ (HY7.o.kr (HR7.o.kpx hr10.2));have HK10:=hZ (HK7.o.trans hr10.2);have HR10:Hid (Rdr w10 b N _ _):=hZ hr10.1;clear hr10 HC7 HR7 HK7 HO7 HY7
   go_wp2_with fail
   go_end0
   refine .inl ⟨{ d with brs:=acc' },_,_,by unfold qHu;rw[HE.o,HQ.o];rw[Ha.o];rfl,rfl,⟨{ y with x:=.slice (some ⟨g6,0,none⟩) acc'.length cap6 },rfl,HY10.o.t,HY10.o.g,HY10.o.b,HY10.o.r,qCA.of_own HO10.o⟩,HR10.o,HK10.o⟩
theorem qGO(l:List Tok):qBP l=if isT 0 qDd l then some 0 else if isT 0 qDI l then some 1 else if isT 0 qCg l then some 2 else if isT 0 qEr l then some 3 else if isT 0 qI1 l then some 4 else none:=by
 unfold qBP qAo;simp only[List.findIdx?_cons,List.findIdx?_nil];cases isT 0 qDd l<;>cases isT 0 qDI l<;>cases isT 0 qCg l<;>cases isT 0 qEr l<;>cases isT 0 qI1 l<;>rfl
theorem qLo(w:World):(Instr.index 114 (.agg #[.string ⟨#[105,116,101,109]⟩,.string ⟨#[114,117,108,101]⟩,.string ⟨#[115,112,97,119,110]⟩,.string ⟨#[108,111,111,116]⟩,.string ⟨#[116,97,120]⟩]) (.int .i64 0)).run Tryd.prog w=.ok (.string ⟨#[105,116,101,109]⟩) w:=by kernel_rfl
theorem qLn(w:World):(Instr.index 114 (.agg #[.string ⟨#[105,116,101,109]⟩,.string ⟨#[114,117,108,101]⟩,.string ⟨#[115,112,97,119,110]⟩,.string ⟨#[108,111,111,116]⟩,.string ⟨#[116,97,120]⟩]) (.int .i64 1)).run Tryd.prog w=.ok (.string ⟨#[114,117,108,101]⟩) w:=by kernel_rfl
theorem qLm(w:World):(Instr.index 114 (.agg #[.string ⟨#[105,116,101,109]⟩,.string ⟨#[114,117,108,101]⟩,.string ⟨#[115,112,97,119,110]⟩,.string ⟨#[108,111,111,116]⟩,.string ⟨#[116,97,120]⟩]) (.int .i64 2)).run Tryd.prog w=.ok (.string ⟨#[115,112,97,119,110]⟩) w:=by kernel_rfl
theorem qLl(w:World):(Instr.index 114 (.agg #[.string ⟨#[105,116,101,109]⟩,.string ⟨#[114,117,108,101]⟩,.string ⟨#[115,112,97,119,110]⟩,.string ⟨#[108,111,111,116]⟩,.string ⟨#[116,97,120]⟩]) (.int .i64 3)).run Tryd.prog w=.ok (.string ⟨#[108,111,111,116]⟩) w:=by kernel_rfl
theorem qLk(w:World):(Instr.index 114 (.agg #[.string ⟨#[105,116,101,109]⟩,.string ⟨#[114,117,108,101]⟩,.string ⟨#[115,112,97,119,110]⟩,.string ⟨#[108,111,111,116]⟩,.string ⟨#[116,97,120]⟩]) (.int .i64 4)).run Tryd.prog w=.ok (.string ⟨#[116,97,120]⟩) w:=by kernel_rfl
theorem qJz(b N:Nat)(cs:List Value)(l:List Tok)(w:World)(hr:Rdr w b N l cs):
 Calls Tryd.prog 74 #[.pointer (some ⟨b,0,none⟩)] w fun e w'=>
  (∃k,qBP l=some k/\e=.returned (.int .i64 (k:Nat))/\w'=w)\/(qBP l=none/\e=.panicked [qKn N l]/\w'=w):=by
 obtain⟨v,hb,ht⟩:=hr;have HI:∀s:Bs,Hid (Calls Tryd.prog 70 #[.pointer (some ⟨b,0,none⟩),.int .i64 0,.string ⟨s.toArray⟩] w fun e w'=>e=.returned (.bool (isT 0 s l))/\w'=w):=fun s=>hZ (qEh b N v cs l 0 s w hb ht);have HF:=hZ (qDS b N v cs l w hb ht);have HK:=hZ (qGO l);clear hb ht
 go_enter Tryd.func74,Tryd.ntmps74
 go_wp2_with fail
 go_loopw [6] (fun i wr=>∃(k:Nat),k<=5/\i=.int .i64 k/\wr=w/\Hid (∀j,j<k->isT 0 (qAo.getD j []) l=false)) (fun i _=>5-(intOf i).toNat)
 case atStart=>exact⟨0,by omega,rfl,rfl,hZ (fun j h=>by omega)⟩
 case round=>
  obtain⟨k,hk,rfl,rfl,HB⟩:=hrel;have h5:k=0\/k=1\/k=2\/k=3\/k=4\/k=5:=by omega
  rcases h5 with rfl|rfl|rfl|rfl|rfl|rfl
  ·by_cases hs:isT 0 qDd l=true
   ·have HE:Hid (qBP l=some 0):=hZ (by
     skip
     rw[HK.o];simp only[hs,if_true])
    have HC:=HI qDd;rw[hs]at HC;unfold qDd at HC;have hix:=qLo;clear hs HI HF HK
    go_wp2_with fail
    clear hix;refine HC.o.mono ?_;rintro e w' ⟨rfl,rfl⟩
    go_wp2_with fail
    go_ret;exact .inl ⟨0,HE.o,rfl,rfl⟩
   ·rw[Bool.not_eq_true]at hs
    have Hs:=hZ hs;have HC:=HI qDd;rw[hs]at HC;unfold qDd at HC;have hix:=qLo;clear hs
    go_wp2_with fail
    clear hix;refine HC.o.mono ?_;rintro e w' ⟨rfl,rfl⟩
    go_wp2_with fail
    go_roundw
    case rel=>
     refine⟨1,by omega,by first|trivial|rfl,by first|trivial|rfl,hZ (fun j hj=> ?_)⟩;by_cases hjk:j<0
     ·exact HB.o j hjk
     ·obtain rfl:j=0:=by omega
      exact Hs.o
    case measure=>simp[intOf]
  ·by_cases hs:isT 0 qDI l=true
   ·have HE:Hid (qBP l=some 1):=hZ (by
     have hb0:isT 0 qDd l=false:=HB.o 0 (by omega);rw[HK.o];simp only[hb0,hs,if_true];try rfl)
    have HC:=HI qDI;rw[hs]at HC;unfold qDI at HC;have hix:=qLn;clear hs HI HF HK
    go_wp2_with fail
    clear hix;refine HC.o.mono ?_;rintro e w' ⟨rfl,rfl⟩
    go_wp2_with fail
    go_ret;exact .inl ⟨1,HE.o,rfl,rfl⟩
   ·rw[Bool.not_eq_true]at hs
    have Hs:=hZ hs;have HC:=HI qDI;rw[hs]at HC;unfold qDI at HC;have hix:=qLn;clear hs
    go_wp2_with fail
    clear hix;refine HC.o.mono ?_;rintro e w' ⟨rfl,rfl⟩
    go_wp2_with fail
    go_roundw
    case rel=>
     refine⟨2,by omega,by first|trivial|rfl,by first|trivial|rfl,hZ (fun j hj=> ?_)⟩;by_cases hjk:j<1
     ·exact HB.o j hjk
     ·obtain rfl:j=1:=by omega
      exact Hs.o
    case measure=>simp[intOf]
  ·by_cases hs:isT 0 qCg l=true
   ·have HE:Hid (qBP l=some 2):=hZ (by
     have hb0:isT 0 qDd l=false:=HB.o 0 (by omega);have hb1:isT 0 qDI l=false:=HB.o 1 (by omega);rw[HK.o];simp only[hb0,hb1,hs,if_true];try rfl)
    have HC:=HI qCg;rw[hs]at HC;unfold qCg at HC;have hix:=qLm;clear hs HI HF HK
    go_wp2_with fail
    clear hix;refine HC.o.mono ?_;rintro e w' ⟨rfl,rfl⟩
    go_wp2_with fail
    go_ret;exact .inl ⟨2,HE.o,rfl,rfl⟩
   ·rw[Bool.not_eq_true]at hs
    have Hs:=hZ hs;have HC:=HI qCg;rw[hs]at HC;unfold qCg at HC;have hix:=qLm;clear hs
    go_wp2_with fail
    clear hix;refine HC.o.mono ?_;rintro e w' ⟨rfl,rfl⟩
    go_wp2_with fail
    go_roundw
    case rel=>
     refine⟨3,by omega,by first|trivial|rfl,by first|trivial|rfl,hZ (fun j hj=> ?_)⟩;by_cases hjk:j<2
     ·exact HB.o j hjk
     ·obtain rfl:j=2:=by omega
      exact Hs.o
    case measure=>simp[intOf]
  ·by_cases hs:isT 0 qEr l=true
   ·have HE:Hid (qBP l=some 3):=hZ (by
     have hb0:isT 0 qDd l=false:=HB.o 0 (by omega);have hb1:isT 0 qDI l=false:=HB.o 1 (by omega);have hb2:isT 0 qCg l=false:=HB.o 2 (by omega);rw[HK.o];simp only[hb0,hb1,hb2,hs,if_true];try rfl)
    have HC:=HI qEr;rw[hs]at HC;unfold qEr at HC;have hix:=qLl;clear hs HI HF HK
    go_wp2_with fail
    clear hix;refine HC.o.mono ?_;rintro e w' ⟨rfl,rfl⟩
    go_wp2_with fail
    go_ret;exact .inl ⟨3,HE.o,rfl,rfl⟩
   ·rw[Bool.not_eq_true]at hs
    have Hs:=hZ hs;have HC:=HI qEr;rw[hs]at HC;unfold qEr at HC;have hix:=qLl;clear hs
    go_wp2_with fail
    clear hix;refine HC.o.mono ?_;rintro e w' ⟨rfl,rfl⟩
    go_wp2_with fail
    go_roundw
    case rel=>
     refine⟨4,by omega,by first|trivial|rfl,by first|trivial|rfl,hZ (fun j hj=> ?_)⟩;by_cases hjk:j<3
     ·exact HB.o j hjk
     ·obtain rfl:j=3:=by omega
      exact Hs.o
    case measure=>simp[intOf]
  ·by_cases hs:isT 0 qI1 l=true
   ·have HE:Hid (qBP l=some 4):=hZ (by
     have hb0:isT 0 qDd l=false:=HB.o 0 (by omega);have hb1:isT 0 qDI l=false:=HB.o 1 (by omega);have hb2:isT 0 qCg l=false:=HB.o 2 (by omega);have hb3:isT 0 qEr l=false:=HB.o 3 (by omega);rw[HK.o];simp only[hb0,hb1,hb2,hb3,hs,if_true];try rfl)
    have HC:=HI qI1;rw[hs]at HC;unfold qI1 at HC;have hix:=qLk;clear hs HI HF HK
    go_wp2_with fail
    clear hix;refine HC.o.mono ?_;rintro e w' ⟨rfl,rfl⟩
    go_wp2_with fail
    go_ret;exact .inl ⟨4,HE.o,rfl,rfl⟩
   ·rw[Bool.not_eq_true]at hs
    have Hs:=hZ hs;have HC:=HI qI1;rw[hs]at HC;unfold qI1 at HC;have hix:=qLk;clear hs
    go_wp2_with fail
    clear hix;refine HC.o.mono ?_;rintro e w' ⟨rfl,rfl⟩
    go_wp2_with fail
    go_roundw
    case rel=>
     refine⟨5,by omega,by first|trivial|rfl,by first|trivial|rfl,hZ (fun j hj=> ?_)⟩;by_cases hjk:j<4
     ·exact HB.o j hjk
     ·obtain rfl:j=4:=by omega
      exact Hs.o
    case measure=>simp[intOf]
  ·have HE:Hid (qBP l=none):=hZ (by
    have hb0:isT 0 qDd l=false:=HB.o 0 (by omega);have hb1:isT 0 qDI l=false:=HB.o 1 (by omega);have hb2:isT 0 qCg l=false:=HB.o 2 (by omega);have hb3:isT 0 qEr l=false:=HB.o 3 (by omega);have hb4:isT 0 qI1 l=false:=HB.o 4 (by omega);rw[HK.o];simp only[hb0,hb1,hb2,hb3,hb4];rfl)
   clear HI HK
   go_wp2_with fail
   refine HF.o.mono ?_;rintro e w' ⟨rfl,rfl⟩
   go_wp2_with fail
   exact⟨rfl,.inr ⟨HE.o,rfl,rfl⟩⟩
open Go.RowKit Go.MapKept
def qB6(w:World)(b:Nat)(l:List (Bs×Value)):Prop:=∃es clock,w.heap[b]? =some (.map es clock)/\es.toList.map (fun e=>(e.key,e.val))=l.map (fun x=>(Value.string ⟨x.1.toArray⟩,x.2))
theorem qB6.lt{w:World}{b:Nat}{l:List (Bs×Value)}(h:qB6 w b l):b<w.heap.size:=by
 obtain⟨es,clock,h1,-⟩:=h;exact qAq h1
theorem qB6.only{S:Nat->Prop}{w w':World}{b:Nat}{l:List (Bs×Value)}(h:qB6 w b l)(ho:qAg S w w')(hS:¬S b):qB6 w' b l:=by
 obtain⟨es,clock,h1,h2⟩:=h;exact⟨es,clock,(ho.block b (qAq h1) hS).trans h1,h2⟩
theorem qB6.below{w w':World}{b:Nat}{l:List (Bs×Value)}(h:qB6 w b l)(hb:Below w.heap.size w w'):qB6 w' b l:=h.only (S:=fun _=>False) (qAg.of_below hb) (fun h=>h)
theorem qB6.below2{w w':World}{b B:Nat}{l:List (Bs×Value)}(h:qB6 w b l)(hb:Below B w w')(hB:b<B):qB6 w' b l:=by
 obtain⟨es,clock,h1,h2⟩:=h;exact⟨es,clock,(hb.block b hB).trans h1,h2⟩
theorem qB6.made(w:World):qB6 (w.alloc (.map #[] 0)) w.heap.size []:=⟨#[],0,(heap_alloc w _).1,rfl⟩
theorem qB6.setCell{w:World}{b:Nat}{l:List (Bs×Value)}(h:qB6 w b l){p:Addr}(hp:b≠p.block)(v:Value):qB6 (w.setCell p v) b l:=by
 obtain⟨es,clock,h1,h2⟩:=h;exact⟨es,clock,(Below.heap_setCell w p v b hp).trans h1,h2⟩
theorem qFj(x:Bs):∀(es:List MapEntry) (l:List (Bs×Value)) (i:Nat),es.map (fun e=>(e.key,e.val))=l.map (fun x=>(Value.string ⟨x.1.toArray⟩,x.2))->
 ∃j,Instr.findNow .string (.string ⟨x.toArray⟩) es i=some ((l.find? (fun y=>y.1==x)).map (fun y=>(j,y.2)))
 |[],[],i,_=>⟨0,rfl⟩
 |[],_::_,i,h=>by simp at h
 |_::_,[],i,h=>by simp at h
 |e::es,y::l,i,h=>by
  simp only[List.map_cons,List.cons.injEq,Prod.mk.injEq]at h;obtain⟨⟨h1,h2⟩,h3⟩:=h;have hs:Instr.sameNow .string (.string ⟨x.toArray⟩) e.key=some (y.1==x):=by
   rw[h1]
   show some ((⟨x.toArray⟩:ByteArray)==⟨y.1.toArray⟩)=_
   congr 1
   show(x.toArray==y.1.toArray)=(y.1==x)
   rw[Bool.eq_iff_iff,beq_iff_eq,beq_iff_eq];exact⟨fun h=>(List.toArray_inj h).symm,fun h=>by rw[h]⟩
  by_cases hy:(y.1==x)=true
  ·rw[hy]at hs
   exact⟨i,by simp only[List.find?_cons,hy,<-h2,Instr.findNow,hs,Option.map_some]⟩
  ·rw[Bool.not_eq_true]at hy
   rw[hy]at hs;obtain⟨j,hj⟩:=qFj x es l (i+1) h3;exact⟨j,by simp only[List.find?_cons,hy,<-hj,Instr.findNow,hs]⟩
theorem qFr{P:Program}{w:World}{b:Nat}{l:List (Bs×Value)}(h:qB6 w b l){t k e:TypeId}(ht:P.underlying t=some (.map k e))(hk:P.underlying k=some .string){z:Value}(hz:∀w,(zeroValue e).run P w=.ok z w)(x:Bs)(ok:Bool):
 (Instr.lookup t (.map (some b)) (.string ⟨x.toArray⟩) ok).run P w=.ok (if ok then .tuple #[((l.find? (fun y=>y.1==x)).map (·.2)).getD z,.bool (l.find? (fun y=>y.1==x)).isSome]else ((l.find? (fun y=>y.1==x)).map (·.2)).getD z) w:=by
 obtain⟨es,clock,h1,h2⟩:=h;obtain⟨j,hj⟩:=qFj x es.toList l 0 h2;have hc:(Instr.checkKey es.isEmpty 10000 k (.string ⟨x.toArray⟩)).run P w=.ok () w:=run_checkKey (k:=.string ⟨x.toArray⟩) hk (by simp[IsKey]) _ 9999;simp only[Instr.lookup,Sem.run_bind,run_underlying ht,Result.andThen,Go.MapKept.run_getObj_map h1,Sem.run_pure,hc,run_findKey hk hj];cases hf:l.find? (fun y=>y.1==x)with
 |none=>simp[hz,Result.andThen]
 |some y=>simp
theorem qAW{P:Program}{w:World}{b:Nat}{l:List (Bs×Value)}(h:qB6 w b l){t k e:TypeId}(ht:P.underlying t=some (.map k e))(hk:P.underlying k=some .string)(x:Bs)(v:Value)(hx:l.find? (fun y=>y.1==x)=none):
 ∃w',(Instr.mapUpdate t (.map (some b)) (.string ⟨x.toArray⟩) v).run P w=.ok () w'/\qB6 w' b (l++[(x,v)])/\qAg (fun c=>c=b) w w'/\w'.heap.size=w.heap.size:=by
 obtain⟨es,clock,h1,h2⟩:=h;obtain⟨j,hj⟩:=qFj x es.toList l 0 h2;rw[hx]at hj;have hc:(Instr.checkKey false 10000 k (.string ⟨x.toArray⟩)).run P w=.ok () w:=run_checkKey (k:=.string ⟨x.toArray⟩) hk (by simp[IsKey]) _ 9999;refine⟨{ w with heap:=w.heap.setIfInBounds b (.map (es.push { key:=.string ⟨x.toArray⟩,val:=v,born:=clock }) (clock+1)) },?_,⟨_,_,(heap_set h1).1,by simp[h2]⟩,⟨rfl,rfl,rfl,by simp,fun c hc2 hne=>(heap_set h1).2 c hne⟩,by simp⟩;simp[Instr.mapUpdate,run_underlying ht,Go.MapKept.run_getObj_map h1,hc,run_findKey hk hj,Go.MapKept.run_setObj_map _ h1,Result.andThen]
theorem qG8{P:Program}{w:World}{ops:Array Oper}{rest:List Oper}{o:Oper}{a:Act}{Q:Exit->Act->World->Prop}(hg:o.guard=none)(m x v:Operand)(t:TypeId)(hop:o.op=Op.mapUpdate t m x v\/o.op=Op.insert t m x v)
 {k e:TypeId}(ht:P.underlying t=some (.map k e))(hk:P.underlying k=some .string)(b:Nat)(l:List (Bs×Value))(hm:a.eval m=.map (some b))(s:Bs)(hx:a.eval x=.string ⟨s.toArray⟩)(u:Value)(hv:a.eval v=u)(h:qB6 w b l)(hn:l.find? (fun y=>y.1==s)=none)
 (hK:∀w',Hid (qB6 w' b (l++[(s,u)]))->Hid (qAg (fun c=>c=b) w w')->w'.heap.size=w.heap.size->wpList P ops Q rest (a.put o.dst undef) w'):wpList P ops Q (o::rest) a w:=by
 refine wpList_plain hg fun K' hK'=> ?_;obtain⟨w',hrun,r1,r2,r3⟩:=qAW h ht hk s u hn;unfold Oper.wp;rcases hop with hop|hop<;>
 ·simp[execOp,hop,hm,hx,hv,hrun,Result.andThen]
  exact hK' _ _ (hK w' (hZ r1) (hZ r2) r3)
theorem qIZ:∀x y:Fg,(x.word==y.word)=decide (x=y):=by
 intro x y;cases x<;>cases y<;>decide +kernel
def fgV(fn:Fg->Nat)(b:Nat)(x:Fg):Value:=.func (.func (fn x)) #[.pointer (some ⟨b,0,none⟩)] #[]
def qCj(fn:Fg->Nat)(b:Nat)(known:List Fg):List (Bs×Value):=known.map (fun x=>(x.word,fgV fn b x))
def qGb(seen:List Fg):List (Bs×Value):=seen.reverse.map (fun x=>(x.word,.bool true))
theorem qHB(fn:Fg->Nat)(b:Nat)(known:List Fg)(s:Bs):(qCj fn b known).find? (fun y=>y.1==s)=(known.find? (fun x=>s==x.word)).map (fun x=>(x.word,fgV fn b x)):=by
 unfold qCj;rw[List.find?_map]
 congr 2
 funext x
 show(x.word==s)=(s==x.word)
 rw[Bool.eq_iff_iff];simp only[beq_iff_eq];exact eq_comm
theorem qFt(seen:List Fg)(x:Fg):(qGb seen).find? (fun y=>y.1==x.word)=if seen.contains x then some (x.word,.bool true)else none:=by
 unfold qGb;rw[List.find?_map];have h:∀l:List Fg,l.find? ((fun y:Bs×Value=>y.1==x.word)∘fun y=>(y.word,Value.bool true))=if l.contains x then some x else none:=by
  intro l
  induction l with
  |nil=>rfl
  |cons y l ih=>
   rw[List.find?_cons,ih]
   show(match y.word==x.word with|true=>some y|false=>_)=_
   rw[qIZ];by_cases e:y=x
   ·subst e;simp
   ·have e2:¬x=y:=fun h=>e h.symm
    simp[e,e2]
 rw[h];by_cases hc:seen.contains x=true
 ·rw[if_pos hc,if_pos (by simpa using hc)];rfl
 ·rw[if_neg hc,if_neg (by simpa using hc)];rfl
theorem qIe{x:Fg}{d d':Dc}{l l':List Tok}(h:pFg x d l=.ok (d',l')):l'.length<=l.length:=by
 have num:∀{l r:List Tok} {n:Int},qBg l=.ok (n,r)->r.length<=l.length:=fun h=>by have:=qBu h;omega
 have one:∀{f:Int->Dc} {l:List Tok},(match qBg l with|.error z=>(Except.error z:Rd Dc)|.ok (n,r)=>(.ok (f n,r):Rd Dc))=.ok (d',l')->l'.length<=l.length:=by
  intro f l h;cases h1:qBg l with
  |error z=>rw[h1]at h;cases h
  |ok y=>
   rw[h1]at h;have:=num (n:=y.1) (r:=y.2) h1;cases h;exact this
 have lst:∀{f:List Pr->Dc} {l:List Tok},(match qAE l with|.error z=>(Except.error z:Rd Dc)|.ok (x,r)=>(.ok (f x,r):Rd Dc))=.ok (d',l')->l'.length<=l.length:=by
  intro f l h;cases h1:qAE l with
  |error z=>rw[h1]at h;cases h
  |ok y=>
   rw[h1]at h;have:=qC1 _ l (x:=y.1) (r:=y.2) (Nat.le_refl _) h1;cases h;omega
 cases x<;>unfold pFg at h
 ·cases h;exact Nat.le_refl _
 ·cases h;exact Nat.le_refl _
 ·cases h;exact Nat.le_refl _
 ·exact one h
 ·simp only[]at h
  split at h
  ·cases h;simp
  ·split at h
   ·cases h;simp
   ·cases h
 ·exact one h
 ·exact one h
 ·simp only[]at h
  cases h1:qBg l with
  |error z=>rw[h1]at h;cases h
  |ok y=>
   obtain⟨n,l1⟩:=y;rw[h1]at h;simp only[]at h;have e1:=qBu h1;cases h2:qAR 0 wOf l1 with
   |error z=>rw[h2]at h;cases h
   |ok y=>
    obtain⟨t,l2⟩:=y;rw[h2]at h;simp only[]at h;have e2:=qAu h2;cases h3:qBg l2 with
    |error z=>rw[h3]at h;cases h
    |ok y=>
     obtain⟨m,l3⟩:=y;rw[h3]at h;have e3:=qBu h3;cases h;omega
 ·exact lst h
 ·exact lst h
 ·exact lst h
theorem qK0(w:World):(zeroValue 1).run Tryd.prog w=.ok .nilFunc w:=by kernel_rfl
theorem qKB(w:World):(zeroValue 4).run Tryd.prog w=.ok (.bool false) w:=by kernel_rfl
theorem qGj(known:List Fg)(fn:Fg->Nat)(b N bm:Nat)(cs:List Value)(d:Dc)(l:List Tok)(w:World)(hr:Rdr w b N l cs)(hd:DPar w cs d)(hl:l.length<=100000)
 (hm:qB6 w bm (qCj fn b known))(hbm:bm≠b)
 (eg:∀x∈known,∀args w,(callFunc (fn x) args).run Tryd.prog w=.ok (.enter (fn x) args) w)
 (hf:∀x∈known,∀(cs:List Value) (d:Dc) (l:List Tok) (w:World),Rdr w b N l cs->DPar w cs d->l.length<=100000->Calls Tryd.prog (fn x) #[.pointer (some ⟨b,0,none⟩)] w (qBj b N (pFg x d l) w)):
 Calls Tryd.prog 75 #[.pointer (some ⟨b,0,none⟩),.map (some bm)] w (qBj b N (qAX known (l.length+1) [] d l) w):=by
 have HR:=hZ hr;have hlt:=hr.lt;have HD:=hZ hd;have HM:=hZ hm;have hbl:=hm.lt;have HEG:=hZ eg;have HF:=hZ hf;have H0:=hZ hl;have hmk:=run_makeMap_plain (P:=Tryd.prog) w 147;clear hr hd hm eg hf hl
 go_enter Tryd.func75,Tryd.ntmps75
 go_wp2_with fail
 clear hmk
 go_loopw [] (fun wr=>∃(seen:List Fg) (cs1:List Value) (d1:Dc) (f1:Nat) (l1:List Tok),Hid (qAX known (l.length+1) [] d l=qAX known (f1+1) seen d1 l1)/\Hid (l1.length<=100000/\l1.length<=f1)/\Hid (Rdr wr b N l1 cs1)/\Hid (DPar wr cs1 d1)/\
  Hid (qB6 wr bm (qCj fn b known))/\Hid (qB6 wr w.heap.size (qGb seen))/\Hid (qAg (fun k=>k=b) w wr)) (fun wr=>qGp wr b)
 case atStart=>
  have hB:=qAa w (.map #[] 0);exact⟨[],cs,d,l.length,l,hZ rfl,hZ ⟨H0.o,Nat.le_refl _⟩,hZ (HR.o.below hB),hZ (HD.o.kp (KpX.of_below (X:=[]) hB) (by simp) (by simp) (by simp)),hZ (HM.o.below hB),hZ (qB6.made w),hZ (qAg.of_below hB)⟩
 case round=>
  obtain⟨seen,cs1,d1,f1,l1,HE,HL,HR1,HD1,HM1,HS1,HK1⟩:=hrel;clear HR HD HM;obtain⟨v1,hb1,ht1⟩:=HR1.o;have HC:=hZ (qEh b N v1 _ l1 0 [] wr hb1 ht1);by_cases hi:isT 0 [] l1=true;rotate_left
  ·rw[Bool.not_eq_true]at hi
   rw[hi]at HC;have HQ:Hid (qAX known (f1+1) seen d1 l1=.ok (d1,l1)):=hZ (by
    cases l1 with
    |nil=>rfl
    |cons t l2=>
     have h9:t.is 0 []=false:=hi;simp only[qAX,h9];rfl)
   clear hi hb1 ht1
   go_wp2_with fail
   refine HC.o.mono ?_;rintro e w' ⟨rfl,rfl⟩
   go_wp2_with fail
   go_end0
   exact .inl ⟨d1,l1,cs1,by rw[HE.o,HQ.o],rfl,HD1.o,HR1.o,HK1.o⟩
  rw[hi]at HC;cases l1 with
  |nil=>cases hi
  |cons t l2=>
   have ht0:t.is 0 []=true:=hi;obtain⟨g,off,cap,rfl,g1,g2,g3,t0,t1,t2,t3⟩:=ht1.head;have c0:wr.cell? ⟨b,0,none⟩=some _:=hb1.cell 0;have HFl:=hZ (qDS b N _ _ _ wr hb1 ht1);have hlk:=qFr (P:=Tryd.prog) HM1.o Tryd.underlying97 Tryd.underlying9 qK0 t.text true;rw[qHB]at hlk;clear hi;cases hx:known.find? (fun x=>t.text==x.word)with
   |none=>
    rw[hx]at hlk;simp only[Option.map_none,Option.getD_none,Option.isSome_none,if_true]at hlk;have HQ:Hid (qAX known (f1+1) seen d1 (t::l2)=.error (t::l2)):=hZ (by simp only[qAX,if_pos ht0,hx]);clear hx hb1 ht1
    go_wp2_with fail
    refine HC.o.mono ?_;rintro e w' ⟨rfl,rfl⟩
    go_wp2_with fail
    refine HFl.o.mono ?_;rintro e w' ⟨rfl,rfl⟩
    go_wp2_with fail
    exact⟨rfl,.inr ⟨_,by rw[HE.o,HQ.o],rfl,HK1.o⟩⟩
   |some x=>
    have hxt:t.text=x.word:=by have:=List.find?_some hx;simpa using this
    have hxm:x∈known:=List.mem_of_find?_eq_some hx;rw[hx]at hlk;simp only[Option.map_some,Option.getD_some,Option.isSome_some,if_true]at hlk;have hls:=qFr (P:=Tryd.prog) HS1.o Tryd.underlying147 Tryd.underlying9 qKB t.text false;rw[hxt,qFt]at hls;rw[hxt]at hlk t1;by_cases hc:seen.contains x=true
    ·rw[if_pos hc]at hls
     simp only[Option.map_some,Option.getD_some]at hls;have HQ:Hid (qAX known (f1+1) seen d1 (t::l2)=.error (t::l2)):=hZ (by simp only[qAX,if_pos ht0,hx,if_pos hc]);clear hx hb1 ht1 hc hxt;unfold fgV at hlk
     go_wp2_with fail
     refine HC.o.mono ?_;rintro e w' ⟨rfl,rfl⟩
     go_wp2_with fail
     refine HFl.o.mono ?_;rintro e w' ⟨rfl,rfl⟩
     go_wp2_with fail
     exact⟨rfl,.inr ⟨_,by rw[HE.o,HQ.o],rfl,HK1.o⟩⟩
    ·rw[if_neg hc]at hls
     simp only[Option.map_none,Option.getD_none]at hls;have HQ:Hid (qAX known (f1+1) seen d1 (t::l2)=match pFg x d1 l2 with|.error z=> .error z|.ok (d',l')=>qAX known f1 (x::seen) d' l'):=hZ (by simp only[qAX,if_pos ht0,hx,if_neg hc];rfl);have HT:Hid (qAR 0 [] (t::l2)=.ok (t,l2)):=hZ (by simp only[qAR,if_pos ht0]);have hsf:(qGb seen).find? (fun y=>y.1==x.word)=none:=by rw[qFt,if_neg hc]
     have Hsf:=hZ hsf;have Hxm:=hZ hxm;have eg9:=HEG.o x hxm;clear hx hb1 ht1 hc hxt hsf HFl hxm;unfold fgV at hlk
     go_wp2_with fail
     refine HC.o.mono ?_;rintro e w' ⟨rfl,rfl⟩
     go_wp2_with (at_mapUpdate;refine qG8 rfl _ _ _ _ (.inl rfl) Tryd.underlying147 Tryd.underlying9 w.heap.size (qGb seen) rfl x.word rfl (.bool true) rfl HS1.o Hsf.o ?_)
     intro w2 HS2 HO2 hz2;have hX2:KpX [] w' w2:=KpX.of_only HO2.o (fun c hc e cs9 hh=>by
      subst hc;obtain⟨es,ck,h9,-⟩:=HS1.o;rw[h9]at hh;cases hh)
     have HR2:=hZ (HR1.o.kp hX2 (by simp) (by simp));have HD2:=hZ (HD1.o.kp hX2 (by simp) (by simp) (by simp));have HM2:=hZ (HM1.o.only HO2.o (by omega));have HK2:=hZ (HK1.o.behind ((Below.refl w.heap.size w').trans ⟨HO2.o.os,HO2.o.tape,HO2.o.output,HO2.o.size,fun k hk=>HO2.o.block k (Nat.lt_of_lt_of_le hk HK1.o.size) (by omega)⟩));have HS2':Hid (qB6 w2 w.heap.size (qGb (x::seen))):=hZ (by have:=HS2.o;unfold qGb at this ⊢;simpa using this);obtain⟨v2,hb2,ht2⟩:=HR2.o;have HC2:=hZ (qAK b N v2 _ (t::l2) 0 [] w2 hb2 ht2);clear hX2 hb2 ht2 HS2 HO2 hlk hls c0 t0 t1 t2 t3 g1 g2 g3 HS1 HM1 HD1 HK1
     go_wp2_with fail
     refine HC2.o.mono ?_;rintro e w3 (⟨t3,l3,h1,rfl,hr3⟩|⟨z,h1,rfl,hr3⟩);rotate_left
     ·rw[HT.o]at h1;cases h1
     rw[HT.o]at h1;injection h1 with h1;injection h1 with h1 h1';subst h1 h1';have HR3:Hid (Rdr w3 b N l2 cs1):=hZ hr3.1;have HD3:=hZ (DPar.kr HD2.o (HR2.o.kpx hr3.2));have HM3:=hZ (HM2.o.only hr3.2 hbm);have HS3:=hZ (HS2'.o.only hr3.2 (by omega));have HK3:=hZ (HK2.o.trans hr3.2);have hl2:l2.length<=100000:=by have:=HL.o.1;simp at this;omega
     have HCF:=hZ (HF.o x Hxm.o cs1 d1 l2 w3 HR3.o HD3.o hl2);clear hr3 HR2 HD2 HM2 HS2' HK2 HC2 HC Hxm Hsf HT;unfold qEW
     go_wp2_with fail
     refine HCF.o.mono ?_;rintro e w4 (⟨d4,l4,cs4,h1,rfl,hd4,hr4⟩|⟨z,h1,rfl,hr4⟩);rotate_left
     ·rw[h1]at HQ
      have HB:=hZ (HK3.o.trans hr4);clear hr4 h1
      go_wp2_with fail
      exact⟨rfl,.inr ⟨z,by rw[HE.o,HQ.o],rfl,HB.o⟩⟩
     rw[h1]at HQ;simp only[]at HQ;have HD4:=hZ hd4;have HR4:Hid (Rdr w4 b N l4 cs4):=hZ hr4.1;have HM4:=hZ (HM3.o.only hr4.2 hbm);have HS4:=hZ (HS3.o.only hr4.2 (by omega));have HK4:=hZ (HK3.o.trans hr4.2);have Hl4:=hZ (qIe h1);clear h1 hd4 hr4 HR3 HD3 HM3 HS3 HK3 HCF eg9
     go_wp2_with fail
     go_roundw
     case rel=>
      obtain⟨f2,rfl⟩:∃f2,f1=f2+1:=⟨f1-1,by have:=HL.o.2;simp at this;omega⟩;exact⟨x::seen,cs4,d4,f2,l4,hZ (by rw[HE.o,HQ.o]),hZ (by have:=HL.o;have:=Hl4.o;simp at *;omega),HR4,HD4,HM4,HS4,HK4⟩
     case measure=>
      rw[HR4.o.len,HR1.o.len];have:=Hl4.o;simp;omega
end Go.Proofs.YtpmnbcdjoomgcaaDoor
