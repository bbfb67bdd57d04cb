/- The tokens of the text of declarations, and reading them, in plain Lean. -/
import Derived.Test.YtpmnbcdjoomgcaaDoorQARefWalks
import Derived.Test.YtpmnbcdjoomgcaaDoorQAQOnce
import Derived.Lib.Builder
import Derived.Lib.AppendStr
import Derived.Lib.UnsafeStr
set_option linter.unusedVariables false
set_option linter.unusedSimpArgs false
set_option maxHeartbeats 2000000
set_option maxRecDepth 100000
namespace Go.Proofs.YtpmnbcdjoomgcaaDoor
open Go.RowKit
abbrev PX:List TypeId:=[85,5]
def qEy(B:Nat)(w:World)(b:Nat)(p:Value)(t:Bs)(line:Bool):Prop:=
 B<=b/\∃v,w.heap[b]? =some (.cells #[p,v,.bool line] 85 (0,0))/\w.ownsRow B 5 1 v t.length (Lib.byteCells t)
def PSt(B:Nat)(w:World)(b:Nat)(t:Bs)(line:Bool):Prop:=qEy B w b (.pointer none) t line\/qEy B w b (.pointer (some ⟨b,0,none⟩)) t line
def PKp(B:Nat)(w w':World):Prop:=Below B w w'/\KpX PX w w'
theorem PKp.refl(B:Nat)(w:World):PKp B w w:=⟨Below.refl _ _,KpX.refl _ _⟩
theorem PKp.trans{B:Nat}{w w1 w2:World}(h:PKp B w w1)(h':PKp B w1 w2):PKp B w w2:=⟨h.1.trans h'.1,h.2.trans h'.2⟩
theorem PKp.behind{B:Nat}{w w1:World}(hB:B<=w.heap.size)(h:Below w.heap.size w w1):PKp B w w1:=⟨h.mono hB,KpX.of_below h⟩
theorem qEy.lt{B b:Nat}{w:World}{p:Value}{t:Bs}{line:Bool}(h:qEy B w b p t line):b<w.heap.size:=by
 obtain⟨_,v,h1,_⟩:=h;exact qAq h1
theorem PSt.lt{B b:Nat}{w:World}{t:Bs}{line:Bool}(h:PSt B w b t line):b<w.heap.size:=h.elim qEy.lt qEy.lt
theorem qEy.kp{B b:Nat}{X:List TypeId}{w w':World}{p:Value}{t:Bs}{line:Bool}(h:qEy B w b p t line)(hk:KpX X w w')(h1:85∉X)(h2:5∉X):qEy B w' b p t line:=by
 obtain⟨hB,v,hb,ho⟩:=h;refine⟨hB,v,hk _ _ _ h1 hb,ho.1,?_⟩;rcases ho.2 with h0|⟨g,cap,cur,hv,hg,hh,hr⟩
 ·exact .inl h0
 ·exact .inr ⟨g,cap,cur,hv,hg,hk _ _ _ h2 hh,hr⟩
theorem PSt.kp{B b:Nat}{X:List TypeId}{w w':World}{t:Bs}{line:Bool}(h:PSt B w b t line)(hk:KpX X w w')(h1:85∉X)(h2:5∉X):PSt B w' b t line:=
 h.elim (fun h=> .inl (h.kp hk h1 h2)) (fun h=> .inr (h.kp hk h1 h2))
theorem PSt.below{B b:Nat}{w w':World}{t:Bs}{line:Bool}(h:PSt B w b t line)(hk:Below w.heap.size w w'):PSt B w' b t line:=h.kp (KpX.of_below (X:=[]) hk) (by simp) (by simp)
theorem qEy.any{B b:Nat}{w:World}{p:Value}{t:Bs}{line:Bool}(h:qEy B w b p t line)(v:Value)(hv:w.heap[b]? =some (.cells #[p,v,.bool line] 85 (0,0))):w.ownsRow B 5 1 v t.length (Lib.byteCells t):=by
 obtain⟨_,v',h1,h2⟩:=h;have:v'=v:=by
  rw[h1]at hv;injection hv with hv;injection hv with hv;simpa using hv
 rw[<-this];exact h2
theorem qLh:(Tryd.prog.info? 83).map (·.size)=some 2:=by kernel_rfl
theorem qKT{B b:Nat}{w:World}{p:Value}{t:Bs}{line:Bool}(h:qEy B w b p t line):w.shape? b=some (85,3):=by
 obtain⟨_,v,h1,_⟩:=h;simp[World.shape?,h1]
theorem qLi:liesAt Tryd.prog Tryd.prog.depth 85 (3/Tryd.prog.cellsOf 85) 0 83 1=true:=by kernel_rfl
theorem qFy(B b:Nat)(t:Bs)(line:Bool)(w:World)(h:PSt B w b t line):
 Calls Tryd.prog 101 #[.pointer (some ⟨b,0,none⟩)] w fun e w'=>e=.returned (.tuple #[])/\qEy B w' b (.pointer (some ⟨b,0,none⟩)) t line/\PKp B w w':=by
 obtain⟨j,hj,hjs⟩:=Option.map_eq_some_iff.1 qLh;rcases h with h|h
 ·have H:=hZ h
  obtain⟨hB,v,hb,ho⟩:=h;have c0:w.cell? ⟨b,0,none⟩=some (.pointer none):=by rw[Lib.cell_of_heap hb];rfl
  have f0:w.frozen? ⟨b,0,none⟩=false:=Lib.frozen_of_heap hb 0;have hsh:=qKT H.o;have Hb:=hZ hb;have Ho:=hZ ho;clear hb ho
  go_enter Tryd.func101,Tryd.ntmps101
  go_wp2
  rw[Lib.run_to_unsafe w ⟨b,0,none⟩ Tryd.underlying80 Tryd.underlying154 hj (by rw[hjs];decide) hsh (show(0:Nat)<3 by decide)];simp only[Result.andThen];rw[Oper.upon_value]
  go_wp2
  rw[run_callFunc_extern Tryd.func111 (by kernel_rfl) (by kernel_rfl) (by kernel_rfl) (e:=Extern.AbiNoEscape.same) (by kernel_rfl)];rw[Lib.run_noEscape];simp only[Result.andThen];rw[Oper.upon_value]
  go_wp2
  rw[Lib.run_from_unsafe w ⟨b,0,none⟩ Tryd.underlying154 Tryd.underlying80 hj hsh qLi];simp only[Result.andThen];rw[Oper.upon_value]
  go_wp2
  go_end0
  have hb':(w.setCell ⟨b,0,none⟩ (.pointer (some ⟨b,0,none⟩))).heap[b]? =some (.cells #[.pointer (some ⟨b,0,none⟩),v,.bool line] 85 (0,0)):=by
   simp[World.setCell,Array.getElem?_modify,Hb.o]
  have hk:KpX [85] w (w.setCell ⟨b,0,none⟩ (.pointer (some ⟨b,0,none⟩))):=KpX.set Hb.o (by simp) _;refine⟨rfl,⟨hB,v,hb',qBJ Ho.o hk (by decide)⟩,(Below.refl B w).setCell (p:=⟨b,0,none⟩) hB _,hk.mono (by simp)⟩
 ·have H:=hZ h
  obtain⟨hB,v,hb,ho⟩:=h;have c0:w.cell? ⟨b,0,none⟩=some (.pointer (some ⟨b,0,none⟩)):=by rw[Lib.cell_of_heap hb];rfl
  clear hb ho
  go_enter Tryd.func101,Tryd.ntmps101
  go_wp2
  rw[Lib.run_neq_ptr_same w _ Tryd.underlying80 hj]
  go_wp2
  go_end0
  exact⟨rfl,H.o,PKp.refl _ _⟩
theorem qKN:(Tryd.prog.info? 5).map (fun i=>(i.zero,i.size,i.bytes))=some (some (.int .u8 0),1,1):=by kernel_rfl
theorem qEy.put{B b:Nat}{w:World}{p v v':Value}{t:Bs}{line:Bool}(hB:B<=b)(hb:w.heap[b]? =some (.cells #[p,v,.bool line] 85 (0,0)))(ho:w.ownsRow B 5 1 v' t.length (Lib.byteCells t)):
 qEy B (w.setCell ⟨b,1,none⟩ v') b p t line/\KpX [85] w (w.setCell ⟨b,1,none⟩ v'):=by
 have hk:KpX [85] w (w.setCell ⟨b,1,none⟩ v'):=KpX.set hb (by simp) _;exact⟨⟨hB,v',by simp[World.setCell,Array.getElem?_modify,hb],qBJ ho hk (by decide)⟩,hk⟩
theorem qFB(B b:Nat)(t:Bs)(line:Bool)(c:UInt8)(w:World)(h:PSt B w b t line)(hlen:t.length<=100000000)(hBw:B<=w.heap.size):
 Calls Tryd.prog 64 #[.pointer (some ⟨b,0,none⟩),.int .u8 c.toNat] w fun e w'=>e=.returned .nilIface/\PSt B w' b (t++[c]) line/\PKp B w w':=by
 obtain⟨i0,hi,hz0,hz1,hz2⟩:=info_parts qKN;have H:=hZ h;clear h
 go_enter Tryd.func64,Tryd.ntmps64
 go_wp2_with fail
 refine(qFy B b t line w H.o).mono ?_;rintro e w1 ⟨rfl,⟨hB,v,hbk,hown⟩,hk1⟩;have c0:w1.cell? ⟨b,0,none⟩=some (.pointer (some ⟨b,0,none⟩)):=by rw[Lib.cell_of_heap hbk];rfl
 have c1:w1.cell? ⟨b,1,none⟩=some v:=by rw[Lib.cell_of_heap hbk];rfl
 have hlt:=qAq hbk;have Hbk:=hZ hbk;have Hown:=hZ hown;have Hk1:=hZ hk1;have z1:=hk1.1.size;have hc0:(0:Int)<=c.toNat:=by omega
 clear hbk hown hk1
 go_wp2_with (at_builtin;refine wpList_append_own _ rfl _ _ 81 rfl B 5 i0 (.int .u8 0) 1 1 Tryd.underlying81 hi hz0 hz1 hz2 rfl (by decide) _ _ _ rfl (Hown.o.alloc _) ⟨w1.heap.size,0,none⟩ 1 1 [.int .u8 c.toNat] rfl rfl ?c1 ?c2 ?c3 ?c4 ?c5 ?_)
 case c1=>
  intro j u hj
  match j,hj with
  |0,hj=>simp at hj;subst hj;simp[Addr.add]
 case c2=>intro u hu;simp at hu;subst hu;rfl
 case c3=>unfold maxLen;omega
 case c4=>omega
 case c5=>simp;omega
 intro v' w2 hown' hgrow _;have hkg:KpX [5] (w1.alloc (.cells #[.int .u8 c.toNat] 5)) w2:=KpX.grown (Hown.o.alloc _) hgrow (by simp);have hkk:KpX PX w w2:=(Hk1.o.2.trans (KpX.of_below (qAa w1 _))).trans (hkg.mono (by simp));have hbk2:w2.heap[b]? =some (.cells #[.pointer (some ⟨b,0,none⟩),v,.bool line] 85 (0,0)):=hkg _ _ _ (by decide) ((qAa w1 _).block b hlt|>.trans Hbk.o);obtain⟨g2,cap2,hv2,_⟩:=hown'.form (by omega);subst hv2;have d0:w2.cell? ⟨b,0,none⟩=some (.pointer (some ⟨b,0,none⟩)):=by rw[Lib.cell_of_heap hbk2];rfl
 have d1:w2.cell? ⟨b,1,none⟩=some v:=by rw[Lib.cell_of_heap hbk2];rfl
 have f1:w2.frozen? ⟨b,1,none⟩=false:=Lib.frozen_of_heap hbk2 1;have Hown':=hZ hown';have HBl:Hid (Below B w w2):=hZ ((Hk1.o.1.alloc (by omega) _).grown hgrow (by simp;omega) (fun r e=>(Hown.o.lt r e).1));have Hbk2:=hZ hbk2;have Hkk:=hZ hkk;clear hown' hgrow hbk2 hkk hkg
 go_wp2
 go_ret;obtain⟨h1,h2⟩:=qEy.put (t:=t++[c]) hB Hbk2.o (by simpa[Lib.byteCells]using Hown'.o);exact⟨rfl,.inr h1,HBl.o.setCell (p:=⟨b,1,none⟩) hB _,Hkk.o.trans (h2.mono (by simp))⟩
theorem qD2(B b:Nat)(t:Bs)(line:Bool)(s:Bs)(w:World)(h:PSt B w b t line)(hlen:t.length+s.length<=100000000)(hBw:B<=w.heap.size):
 Calls Tryd.prog 97 #[.pointer (some ⟨b,0,none⟩),.string ⟨s.toArray⟩] w fun e w'=>(∃v,e=.returned v)/\PSt B w' b (t++s) line/\PKp B w w':=by
 obtain⟨i0,hi,hz0,hz1,hz2⟩:=info_parts qKN;have H:=hZ h;clear h;have hsz:(⟨s.toArray⟩:ByteArray).size=s.length:=by show s.toArray.size=_;simp
 go_enter Tryd.func97,Tryd.ntmps97
 go_wp2_with fail
 refine(qFy B b t line w H.o).mono ?_;rintro e w1 ⟨rfl,⟨hB,v,hbk,hown⟩,hk1⟩;have c0:w1.cell? ⟨b,0,none⟩=some (.pointer (some ⟨b,0,none⟩)):=by rw[Lib.cell_of_heap hbk];rfl
 have c1:w1.cell? ⟨b,1,none⟩=some v:=by rw[Lib.cell_of_heap hbk];rfl
 have hlt:=qAq hbk;have Hbk:=hZ hbk;have Hown:=hZ hown;have Hk1:=hZ hk1;have z1:=hk1.1.size;clear hbk hown hk1
 go_wp2_with (at_builtin;refine Lib.wpList_append_own_string _ rfl _ _ 81 9 rfl B 5 i0 Tryd.underlying81 Tryd.underlying9 hi hz0 hz1 hz2 _ _ _ rfl Hown.o ⟨s.toArray⟩ rfl ?c3 ?c4 ?c5 ?_)
 case c3=>unfold maxLen;omega
 case c4=>omega
 case c5=>omega
 intro v' w2 hown' hgrow _;have hkg:KpX [5] w1 w2:=KpX.grown Hown.o hgrow (by simp);have hkk:KpX PX w w2:=Hk1.o.2.trans (hkg.mono (by simp));have hbk2:w2.heap[b]? =some (.cells #[.pointer (some ⟨b,0,none⟩),v,.bool line] 85 (0,0)):=hkg _ _ _ (by decide) Hbk.o;have d0:w2.cell? ⟨b,0,none⟩=some (.pointer (some ⟨b,0,none⟩)):=by rw[Lib.cell_of_heap hbk2];rfl
 have d1:w2.cell? ⟨b,1,none⟩=some v:=by rw[Lib.cell_of_heap hbk2];rfl
 have f1:w2.frozen? ⟨b,1,none⟩=false:=Lib.frozen_of_heap hbk2 1;obtain⟨ao,n',cap,rfl⟩:∃ao n' cap,v'=.slice ao n' cap:=by
  rcases hown'.2 with ⟨hv,_⟩|⟨g,cap,cur,hv,_⟩
  ·exact⟨_,_,_,hv⟩
  ·exact⟨_,_,_,hv⟩
 have Hown':=hZ hown';have HBl:Hid (Below B w w2):=hZ (Hk1.o.1.grown hgrow (by omega) (fun r e=>(Hown.o.lt r e).1));have Hbk2:=hZ hbk2;have Hkk:=hZ hkk;clear hown' hgrow hbk2 hkk hkg
 go_wp2
 go_ret2
 have e1:Lib.byteCells (t++s)=Lib.byteCells t++Lib.strCells ⟨s.toArray⟩:=by simp[Lib.byteCells,Lib.strCells]
 have e2:(t++s).length=t.length+(⟨s.toArray⟩:ByteArray).size:=by rw[hsz];simp
 obtain⟨h1,h2⟩:=qEy.put (t:=t++s) hB Hbk2.o (by rw[e1,e2];exact Hown'.o);exact⟨⟨_,rfl⟩,.inr h1,HBl.o.setCell (p:=⟨b,1,none⟩) hB _,Hkk.o.trans (h2.mono (by simp))⟩
theorem qJh(B b:Nat)(t:Bs)(line:Bool)(w:World)(h:PSt B w b t line):
 Calls Tryd.prog 31 #[.pointer (some ⟨b,0,none⟩)] w fun e w'=>e=.returned (.int .i64 t.length)/\w'=w:=by
 obtain⟨p,hB,v,hbk,hown⟩:∃p,qEy B w b p t line:=by
  rcases h with h|h
  ·exact⟨_,h⟩
  ·exact⟨_,h⟩
 obtain⟨ao,cap,rfl⟩:∃ao cap,v=.slice ao t.length cap:=by
  rcases hown.2 with ⟨hv,h0⟩|⟨g,cap,cur,hv,_⟩
  ·exact⟨none,0,by rw[hv,h0]⟩
  ·exact⟨_,_,hv⟩
 have c1:w.cell? ⟨b,1,none⟩=some (.slice ao t.length cap):=by rw[Lib.cell_of_heap hbk];rfl
 clear hbk hown h
 go_enter Tryd.func31,Tryd.ntmps31
 go_wp2
 go_ret;exact⟨rfl,rfl⟩
theorem qKt:Tryd.prog.cellsOf 5=1:=by kernel_rfl
theorem qH7(B b:Nat)(t:Bs)(line:Bool)(w:World)(h:PSt B w b t line)(h0:t≠[]):
 Calls Tryd.prog 32 #[.pointer (some ⟨b,0,none⟩)] w fun e w'=>e=.returned (.string ⟨t.toArray⟩)/\Below B w w':=by
 obtain⟨p,hB,v,hbk,hown⟩:∃p,qEy B w b p t line:=by
  rcases h with h|h
  ·exact⟨_,h⟩
  ·exact⟨_,h⟩
 have hl0:t.length≠0:=by simpa using h0
 obtain⟨g,cap,cur,rfl,hbg,hg,hnc,hcm,hcs,htake⟩:∃g cap cur,v=.slice (some ⟨g,0,none⟩) t.length cap/\B<=g/\w.heap[g]? =some (.cells cur 5 (0,0))/\t.length<=cap/\cap<=maxLen/\cur.size=cap*1/\cur.toList.take (t.length*1)=Lib.byteCells t:=by
  rcases hown.2 with ⟨_,hz⟩|⟨g,cap,cur,hv,r⟩
  ·exact absurd hz hl0
  ·exact⟨g,cap,cur,hv,r⟩
 have c1:w.drew.cell? ⟨b,1,none⟩=some (.slice (some ⟨g,0,none⟩) t.length cap):=by
  have:w.drew.heap[b]? =some (.cells #[p,.slice (some ⟨g,0,none⟩) t.length cap,.bool line] 85 (0,0)):=hbk;rw[Lib.cell_of_heap this];rfl
 have hSD:(Builtin.unsafeSliceData_ #[81] 121 #[.slice (some ⟨g,0,none⟩) t.length cap]).run Tryd.prog w.drew=.ok (.pointer (some ⟨g,0,none⟩)) w.drew:=
  Lib.run_unsafeSliceData_row _ _ _ _ _ _ (by omega)
 have hUS:(Builtin.unsafeString_ #[121,3] 9 #[.pointer (some ⟨g,0,none⟩),.int .i64 t.length]).run Tryd.prog w.drew=.ok (.string ⟨t.toArray⟩) (w.drew.freeze ⟨g,0,none⟩ t.length):=by
  refine Lib.run_unsafeString_row w.drew 121 3 9 5 Tryd.underlying121 qKt g cur.size (by have hg':w.drew.heap[g]? =some (.cells cur 5 (0,0)):=hg;simp[World.shape?,hg']) t h0 (by omega) (by unfold maxLen at hcm;omega) ?_;intro j x hx;have:=hown.cells (g:=g) rfl j (.int .u8 x.toNat) (by simp[Lib.byteCells,hx]);exact this
 clear hbk hown h htake hg
 go_enter Tryd.func32,Tryd.ntmps32
 go_wp2
 go_region
 all_goals (go_wp2;go_ret;exact⟨rfl,Lib.below_freeze (Below.drew (Below.refl B w)) (p:=⟨g,0,none⟩) hbg _⟩)
theorem PSt.line{B b:Nat}{w:World}{t:Bs}{line:Bool}(h:PSt B w b t line)(l':Bool):PSt B (w.setCell ⟨b,2,none⟩ (.bool l')) b t l'/\PKp B w (w.setCell ⟨b,2,none⟩ (.bool l')):=by
 have key:∀p,qEy B w b p t line->qEy B (w.setCell ⟨b,2,none⟩ (.bool l')) b p t l'/\PKp B w (w.setCell ⟨b,2,none⟩ (.bool l')):=by
  rintro p ⟨hB,v,hb,ho⟩;have hk:KpX [85] w (w.setCell ⟨b,2,none⟩ (.bool l')):=KpX.set hb (by simp) _;exact⟨⟨hB,v,by simp[World.setCell,Array.getElem?_modify,hb],qBJ ho hk (by decide)⟩,(Below.refl B w).setCell (p:=⟨b,2,none⟩) hB _,hk.mono (by simp)⟩
 rcases h with h|h
 ·exact⟨.inl (key _ h).1,(key _ h).2⟩
 ·exact⟨.inr (key _ h).1,(key _ h).2⟩
def qJR(b:UInt8):Prop:=cl b=0\/cl b=5
theorem qG0{b:UInt8}(h:qJR b):wb b=false:=by
 unfold wb;rcases h with h|h<;>simp[h]
theorem qG1{b:UInt8}(h:qJR b):db b=false:=by
 unfold db;rcases h with h|h<;>simp[h]
inductive qB8:Int->Bs->Int->Prop
 |word (c:UInt8) (r:Bs) (hc:cl c=1) (hr:∀x∈r,wb x=true) (hl:r.length<=15):qB8 0 (c::r) 0
 |num (c:UInt8) (r:Bs) (n:Nat) (hc:cl c=2) (hr:∀x∈r,db x=true) (hv:dv 0 (c::r)=n) (hn:n<=1099511627776):qB8 1 (c::r) n
 |sym (c:UInt8) (hc:cl c=4):qB8 2 [c] 0
def qJP(k:Int)(r:Bs):Prop:=∀c r',r=c::r'->(k=0->wb c=false)/\(k=1->db c=false)
theorem qBx(f:UInt8->Bool):∀(l r:Bs),(∀x∈l,f x=true)->(∀c r',r=c::r'->f c=false)->(l++r).takeWhile f=l
 |[],[],_,_=>rfl
 |[],c::r,_,h=>by
  have:=h c r rfl;simp[this]
 |c::l,r,h,h'=>by
  rw[List.cons_append,List.takeWhile_cons,if_pos (h c (by simp)),qBx f l r (fun x hx=>h x (by simp[hx])) h']
theorem qB8.cons{k n:Int}{x:Bs}(h:qB8 k x n):∃c r,x=c::r/\cl c≠0/\cl c≠5/\cl c≠6:=by
 cases h with
 |word c r hc=>exact⟨c,r,rfl,by omega,by omega,by omega⟩
 |num c r n hc=>exact⟨c,r,rfl,by omega,by omega,by omega⟩
 |sym c hc=>exact⟨c,[],rfl,by omega,by omega,by omega⟩
theorem qB8.tl{k n:Int}{x:Bs}(h:qB8 k x n)(r:Bs)(hs:qJP k r):tl (x++r)=x.length:=by
 cases h with
 |word c y hc hr hl=>
  rw[List.cons_append,Go.Proofs.YtpmnbcdjoomgcaaDoor.tl,if_pos hc,qBx wb y r hr (fun c r' e=>(hs c r' e).1 rfl),List.length_cons];omega
 |num c y n hc hr hv hn=>
  rw[List.cons_append,Go.Proofs.YtpmnbcdjoomgcaaDoor.tl,if_neg (by omega),if_pos hc,qBx db y r hr (fun c r' e=>(hs c r' e).2 rfl),List.length_cons];omega
 |sym c hc=>
  rw[List.cons_append,Go.Proofs.YtpmnbcdjoomgcaaDoor.tl,if_neg (by omega),if_neg (by omega),if_pos hc];rfl
theorem qB8.nx{k n:Int}{x:Bs}(h:qB8 k x n)(r:Bs)(hs:qJP k r)(a:Nat):nx a (x++r)=.ok ⟨k,x,n,a⟩:=by
 have ht:=h.tl r hs;have hx:(x++r).take x.length=x:=by simp
 cases h with
 |word c y hc hr hl=>
  rw[List.cons_append]at ht hx ⊢;unfold Go.Proofs.YtpmnbcdjoomgcaaDoor.nx;simp only[ht,hx];rw[if_neg (by simp),if_pos hc,if_neg (by simp;omega)]
 |num c y n hc hr hv hn=>
  rw[List.cons_append]at ht hx ⊢;unfold Go.Proofs.YtpmnbcdjoomgcaaDoor.nx;simp only[ht,hx];rw[if_neg (by simp),if_neg (by omega),if_pos hc,hv,if_neg (by omega)]
 |sym c hc=>
  rw[List.cons_append]at ht hx ⊢;unfold Go.Proofs.YtpmnbcdjoomgcaaDoor.nx;simp only[ht,hx];rw[if_neg (by simp),if_neg (by omega),if_neg (by omega)]
def qIa(ts:List Tok)(y:Except (Nat×Int) (List Tok)):Except (Nat×Int) (List Tok):=
 match y with
 |.error e=> .error e
 |.ok us=> .ok (ts++us)
theorem qGK(y:Except (Nat×Int) (List Tok)):qIa [] y=y:=by cases y<;>rfl
theorem qE4(a b:List Tok)(y:Except (Nat×Int) (List Tok)):qIa a (qIa b y)=qIa (a++b) y:=by cases y<;>simp[qIa]
theorem qJX(N:Nat){k n:Int}{x:Bs}(h:qB8 k x n)(r:Bs)(hs:qJP k r):lx N (x++r)=qIa [⟨k,x,n,N-(x++r).length⟩] (lx N r):=by
 obtain⟨c,y,rfl,h0,h5,h6⟩:=h.cons;have ht:=h.tl r hs;have hn:=h.nx r hs (N-(c::y++r).length);rw[qEf];rw[List.cons_append]at ht hn ⊢;rw[qHR c _ h0 h5];simp only[hn,ht];have hd:(c::(y++r)).drop (c::y).length=r:=by simp
 rw[hd];cases lx N r<;>rfl
structure Pc where
 sep:Bs
 k:Int
 x:Bs
 n:Int
def qAn:List Pc->Bs
 |[]=>[]
 |p::l=>p.sep++(p.x++qAn l)
theorem qAA:∀a b:List Pc,qAn (a++b)=qAn a++qAn b
 |[],b=>rfl
 |p::a,b=>by simp[qAn,qAA a b]
structure qKA(s:Bs):Prop where
 skip:∀r,sk false (s++r)=sk false r
 head:∃c s',s=c::s'/\qJR c
structure OkP(p:Pc):Prop where
 tok:qB8 p.k p.x p.n
 sep:qKA p.sep\/(p.sep=[]/\p.k=2)
theorem qKA.blank:qKA [32]:=⟨fun r=>qEY 32 r (by decide),32,[],rfl,.inl (by decide)⟩
theorem qB8.sym4{k n:Int}{x:Bs}(h:qB8 k x n)(hk:k=2):∃c,x=[c]/\cl c=4:=by
 cases h with
 |word=>cases hk
 |num=>cases hk
 |sym c hc=>exact⟨c,rfl,hc⟩
theorem qHQ{k:Int}{f:Bs}(hf:qJP k f):∀l:List Pc,(∀p∈l,OkP p)->qJP k (qAn l++f)
 |[],_=>hf
 |p::l,h=>by
  have hp:=h p (by simp);intro c r' e;rcases hp.sep with hs|⟨hs,hk⟩
  ·obtain⟨d,s',hd,he⟩:=hs.head
   rw[qAn,hd]at e;simp only[List.cons_append]at e;injection e with e1 e2;subst e1;exact⟨fun _=>qG0 he,fun _=>qG1 he⟩
  ·obtain⟨d,hd,h4⟩:=hp.tok.sym4 hk
   rw[qAn,hs,hd]at e;simp only[List.nil_append,List.cons_append]at e;injection e with e1 e2;subst e1;exact⟨fun _=>by simp[wb,h4],fun _=>by simp[db,h4]⟩
abbrev K:=Int×Bs×Int
def Tok.key(t:Tok):K:=(t.kind,t.text,t.n)
def Pc.key(p:Pc):K:=(p.k,p.x,p.n)
theorem qFK(N:Nat)(f:Bs)(hf:∀k,qJP k f):∀l:List Pc,(∀p∈l,OkP p)->∃ts,lx N (qAn l++f)=qIa ts (lx N f)/\ts.map Tok.key=l.map Pc.key
 |[],_=>⟨[],by rw[qGK];rfl,rfl⟩
 |p::l,h=>by
  obtain⟨ts,h1,h2⟩:=qFK N f hf l (fun q hq=>h q (by simp[hq]));have hp:=h p (by simp);have hst:=qHQ (hf p.k) l (fun q hq=>h q (by simp[hq]));have ht:=qJX N hp.tok (qAn l++f) hst;refine⟨⟨p.k,p.x,p.n,N-(p.x++(qAn l++f)).length⟩::ts,?_,by simp only[List.map_cons];rw[h2];rfl⟩;rw[qAn];have hsk:lx N (p.sep++(p.x++qAn l)++f)=lx N (p.x++(qAn l++f)):=by
   rw[List.append_assoc,List.append_assoc];rcases hp.sep with hs|⟨hs,-⟩
   ·rw[<-qDn,hs.skip,qDn]
   ·rw[hs];rfl
  rw[hsk,ht,h1,qE4];rfl
theorem qHA(N:Nat)(f:Bs)(hf:∀k,qJP k f)(p:Pc)(l:List Pc)(hp:qB8 p.k p.x p.n)(hs:p.sep=[])(h:∀q∈l,OkP q):∃ts,lx N (qAn (p::l)++f)=qIa ts (lx N f)/\ts.map Tok.key=(p::l).map Pc.key:=by
 obtain⟨ts,h1,h2⟩:=qFK N f hf l h;have hst:=qHQ (hf p.k) l h;have ht:=qJX N hp (qAn l++f) hst;refine⟨⟨p.k,p.x,p.n,N-(p.x++(qAn l++f)).length⟩::ts,?_,by simp only[List.map_cons];rw[h2];rfl⟩;rw[qAn,hs,List.nil_append,List.append_assoc,ht,h1,qE4];rfl
theorem qHc{c:UInt8}(hc:qJR c)(r:Bs)(k:Int):qJP k (c::r):=by
 intro d r' e;injection e with e1 e2;subst e1;exact⟨fun _=>qG0 hc,fun _=>qG1 hc⟩
theorem qCC(f:UInt8->Bool):∀l:Bs,(l.takeWhile f).length=l.length->∀x∈l,f x=true
 |[],_=>by simp
 |c::l,h=>by
  rw[List.takeWhile_cons]at h;by_cases hc:f c=true
  ·rw[if_pos hc]at h
   intro x hx;rcases List.mem_cons.1 hx with rfl|hx
   ·exact hc
   ·exact qCC f l (by simpa using h) x hx
  ·rw[if_neg hc]at h
   simp at h
theorem qEO{s:Bs}(h:qBt s=true):qB8 0 s 0:=by
 unfold qBt at h;by_cases hl:8192<s.length
 ·rw[if_pos hl]at h;simp at h
 rw[if_neg hl,qEf]at h;have hk:=qDW false s;have hsd:=qHS false s;cases hs:sk false s with
 |nil=>rw[hs]at h;simp at h
 |cons c r=>
  rw[hs]at h hk hsd;simp only[]at h;cases hn:nx (s.length-(c::r).length) (c::r)with
  |error e=>rw[hn]at h;simp at h
  |ok t=>
   rw[hn]at h;simp only[]at h;have ⟨h0,htx,_⟩:=qGk hn;have htl:=qI3 (c::r);have key:t.kind=0/\t.text=s:=by
    cases hy:lx s.length ((c::r).drop (tl (c::r)))with
    |error e=>rw[hy]at h;simp at h
    |ok us=>
     rw[hy]at h;cases us with
     |nil=>simpa using h
     |cons u us=>simp at h
   obtain⟨k1,k2⟩:=key;have hlen:tl (c::r)=s.length:=by
    have:=congrArg List.length (htx.symm.trans k2);rw[List.length_take]at this;omega
   have hlr:(c::r).length=s.length:=by omega
   have hse:s=c::r:=by
    rw[hlr,Nat.sub_self,List.drop_zero]at hsd;exact hsd
   have h1:cl c=1:=by
    rcases Decidable.em (cl c=1)with h1|h1
    ·exact h1
    ·exfalso
     unfold nx at hn;simp only[]at hn;rw[if_neg (by omega),if_neg h1]at hn
     split at hn
     ·split at hn
      ·cases hn
      ·cases hn;simp at k1
     ·cases hn;simp at k1
   have h16:r.length<=15:=by
    unfold nx at hn;simp only[]at hn;rw[if_neg (by omega),if_pos h1]at hn
    split at hn
    ·cases hn
    ·next h16=>rw[hlen,<-hlr,List.length_cons]at h16;omega
   subst hse;rw[tl,if_pos h1,List.length_cons]at hlen;exact .word c r h1 (qCC wb r (by omega)) h16
theorem qKo:∀n:Nat,dv 0 (qGB n)=n:=by
 intro n
 induction n using Nat.strongRecOn with
 |_ n ih=>
  by_cases h:n=0
  ·subst h;rfl
  ·have hlt:=Nat.div_lt_self (n:=n) (k:=10) (by omega) (by omega)
   have hd:=(qIL (n%10) (Nat.mod_lt _ (by omega))).2.1;rw[<-qKq]at hd;rw[qCx n h,qIG,ih _ hlt,hd];omega
theorem qKR(n:Nat):dv 0 (dec n)=n:=by
 unfold dec;by_cases h:n=0
 ·rw[if_pos h,qDr,qKq];subst h;rfl
 ·rw[if_neg h];exact qKo n
theorem qIx(n:Nat)(h:n<=1099511627776):qB8 1 (dec n) n:=by
 obtain⟨h1,h2,c,l,h3,-⟩:=qIK n;have h5:=qKR n;rw[h3]at h1 h5 ⊢;have hd:∀x:UInt8,qGH x->cl x=2:=fun x hx=>((qCO x).2.2.2).2 hx;refine .num c l n (hd c (h1 c (by simp))) (fun x hx=> ?_) h5 h;simp[db,hd x (h1 x (by simp[hx]))]
def qA4(ps:List Pc)(r l:List Tok):Prop:=∃ts,l=ts++r/\ts.map Tok.key=ps.map Pc.key
theorem qA4.nil{r l:List Tok}(h:qA4 [] r l):l=r:=by
 obtain⟨ts,h1,h2⟩:=h;have:ts=[]:=by simpa using h2
 rw[h1,this];rfl
theorem qA4.cons{p:Pc}{ps:List Pc}{r l:List Tok}(h:qA4 (p::ps) r l):∃t l',l=t::l'/\t.key=p.key/\qA4 ps r l':=by
 obtain⟨ts,h1,h2⟩:=h;cases ts with
 |nil=>simp at h2
 |cons t ts=>
  simp only[List.map_cons,List.cons.injEq]at h2;exact⟨t,ts++r,by rw[h1];rfl,h2.1,ts,rfl,h2.2⟩
theorem qA4.app:∀{a b:List Pc} {r l:List Tok},qA4 (a++b) r l->∃m,qA4 a m l/\qA4 b r m
 |[],b,r,l,h=>⟨l,⟨[],rfl,rfl⟩,h⟩
 |p::a,b,r,l,h=>by
  obtain⟨t,l',rfl,hk,h'⟩:=qA4.cons h;obtain⟨m,⟨ts,h1,h2⟩,h3⟩:=qA4.app h';exact⟨m,⟨t::ts,by rw[h1];rfl,by simp only[List.map_cons,hk,h2]⟩,h3⟩
theorem Tok.is_key{t:Tok}{k n:Int}{x:Bs}(h:t.key=(k,x,n))(k':Int)(s:Bs):t.is k' s=(k==k' && (s.isEmpty||x==s)):=by
 unfold Tok.key at h;simp only[Prod.mk.injEq]at h;obtain⟨h1,h2,-⟩:=h;unfold Tok.is;rw[h1,h2]
theorem Tok.key_n{t:Tok}{k n:Int}{x:Bs}(h:t.key=(k,x,n)):t.kind=k/\t.text=x/\t.n=n:=by
 unfold Tok.key at h;simpa using h
def pcW(w:Bs):Pc:=⟨[32],0,w,0⟩
def pcN(n:Int):Pc:=⟨[32],1,qAm n,n⟩
def pcC(c:UInt8):Pc:=⟨[],2,[c],0⟩
def pcP:Pc:=⟨[32],2,[43],0⟩
def pcL:Bool->List Pr->List Pc
 |_,[]=>[]
 |later,p::l=>(if later then [pcC 44]else [])++(pcN p.n::pcW p.name::pcL true l)
def qEv(w:Bs)(n:Int):List Pc:=if n=0 then []else [pcW w,pcN n]
def qCE(w:Bs)(l:List Pr):List Pc:=if l.isEmpty then []else pcW w::pcL false l
def qIX(w:Bs)(b:Bool):List Pc:=if b then [pcW w]else []
def qDx(n:Int):List Pc:=if n=1 then [pcW qEV,pcW qHO]else if n=2 then [pcW qEV,pcW qG9]else []
def qBH(n m:Int):List Pc:=if n=0/\m=0 then []else [pcW qAL,pcN n,pcW wOf,pcN m]
def qBG:Bool->List (List Pr)->List Pc
 |_,[]=>[]
 |later,r::l=>(if later then [pcP]else [])++(pcN (qFN r)::pcC 58::pcL false r.tail)++qBG true l
def qDJ:Bool->List (Int×Int)->List Pc
 |_,[]=>[]
 |later,b::l=>(if later then [pcC 44]else [])++[pcN b.1,pcC 58,pcN b.2]++qDJ true l
def qFA(d:Dc):Fg->List Pc
 |.object=>qIX qAQ d.object
 |.mixed=>qIX qBf d.mixed
 |.coin=>qIX qCc d.coin
 |.wear=>qEv qDb d.wear
 |.bind=>qDx d.bind
 |.level=>qEv qAO d.level
 |.time=>qEv qCS d.time
 |.chance=>qBH d.chance d.of_
 |.take=>qCE qDc d.take
 |.give=>qCE qDe d.give
 |.back=>qCE qDf d.back
theorem qE1:∀(l:List Pr) (b:Bool),qAn (pcL b l)=prL b l
 |[],b=>by cases b<;>rfl
 |p::l,b=>by
  rw[pcL,prL,qAA];have:=qE1 l true;cases b<;>simp[qAn,pcN,pcW,pcC,this]
theorem qD1:∀(l:List (List Pr)) (b:Bool),qAn (qBG b l)=qAr b l
 |[],b=>by cases b<;>rfl
 |r::l,b=>by
  rw[qBG,qAr,qAA,qAA,qD1 l true];have:=qE1 r.tail false;cases b<;>simp[qAn,pcN,pcW,pcC,pcP,this]
theorem qED:∀(l:List (Int×Int)) (b:Bool),qAn (qDJ b l)=qBa b l
 |[],b=>by cases b<;>rfl
 |r::l,b=>by
  rw[qDJ,qBa,qAA,qAA,qED l true];cases b<;>simp[qAn,pcN,pcC]
theorem qGf(w:Bs)(l:List Pr):qAn (qCE w l)=qAB w l:=by
 unfold qCE qAB
 split
 ·rfl
 ·simp[qAn,pcW,qE1]
theorem qEC(w:Bs)(n:Int):qAn (qEv w n)=qAz w n:=by
 unfold qEv qAz
 split
 ·rfl
 ·simp[qAn,pcW,pcN]
theorem qH4(w:Bs)(b:Bool):qAn (qIX w b)=qB0 w b:=by cases b<;>simp[qIX,qB0,qAn,pcW]
theorem qGg(n:Int):qAn (qDx n)=qBb n:=by
 unfold qDx qBb
 split
 ·rfl
 ·split<;>rfl
theorem qE2(n m:Int):qAn (qBH n m)=qAl n m:=by
 unfold qBH qAl
 split
 ·rfl
 ·simp[qAn,pcW,pcN]
def qCN(k:Int):List Fg:=if k=0 then qCb else qBI
def qJT{α:Type}(l:List α)(k:Nat):List α:=l.drop k++l.take k
theorem qFC(d:Dc)(k:Nat)(hk:d.kind<=2):qHi (qAf d) k=qAn ((qJT (qCN d.kind) k).flatMap (qFA d)):=by
 have h1:∀l:List Fg,qAn (l.flatMap (qFA d))=(l.map (fun x=>qAn (qFA d x))).flatten:=by
  intro l
  induction l with
  |nil=>rfl
  |cons x l ih=>rw[List.flatMap_cons,qAA,List.map_cons,List.flatten_cons,ih]
 have h2:qAf d=(qCN d.kind).map (fun x=>qAn (qFA d x)):=by
  unfold qAf qCN;by_cases h0:d.kind=0
  ·rw[if_pos h0,if_pos h0]
   simp[qCb,qFA,qH4,qEC,qGg]
  ·rw[if_neg h0,if_neg h0,if_pos hk]
   simp[qBI,qFA,qGf,qEC,qE2]
 rw[h1,h2];unfold qHi qJT;rw[List.map_append,List.map_drop,List.map_take]
def Pr.st(p:Pr):Pr:={ p with at_:=0 }
def stL(l:List Pr):List Pr:=l.map Pr.st
def Dc.st(d:Dc):Dc:={ d with at_:=0,take:=stL d.take,give:=stL d.give,back:=stL d.back,rows:=d.rows.map stL }
theorem qBU:∀(l:List Pr) (r toks:List Tok),l≠[]->qA4 (pcL false l) r toks->isT 2 [44] r=false->∃l',qAE toks=.ok (l',r)/\stL l'=stL l
 |[],_,_,h,_,_=>absurd rfl h
 |p::l,r,toks,_,h,hr=>by
  rw[pcL]at h;obtain⟨a,l1,rfl,ha,h⟩:=qA4.cons h;obtain⟨b,l2,rfl,hb,h⟩:=qA4.cons h;have a1:=Tok.key_n ha;have b1:=Tok.key_n hb;have qa:a.is 1 []=true:=by rw[Tok.is_key ha];rfl
  have qb:b.is 0 []=true:=by rw[Tok.is_key hb];rfl
  rw[qAE.eq_def];simp only[if_pos qa,if_pos qb];cases l with
  |nil=>
   have:=qA4.nil h;subst this;refine⟨[⟨a.n,b.text,b.at_⟩],?_,by simp[stL,Pr.st,a1,b1,pcN,pcW]⟩;cases l2 with
   |nil=>rfl
   |cons c r'=>
    have:c.is 2 [44]=false:=hr;simp only[this];rfl
  |cons q l=>
   rw[pcL]at h;obtain⟨c,l3,rfl,hc,h⟩:=qA4.cons h;have qc:c.is 2 [44]=true:=by rw[Tok.is_key hc];rfl
   have h':qA4 (pcL false (q::l)) r l3:=by rw[pcL];exact h
   obtain⟨l',e1,e2⟩:=qBU (q::l) r l3 (by simp) h' hr;simp only[if_pos qc,e1];refine⟨_,rfl,?_⟩;simp only[stL,List.map_cons]at e2 ⊢;rw[e2,a1.2.2,b1.2.1];rfl
theorem qFH:∀(l:List (Int×Int)) (r toks:List Tok),l≠[]->qA4 (qDJ false l) r toks->isT 2 [44] r=false->qDK toks=.ok (l,r)
 |[],_,_,h,_,_=>absurd rfl h
 |p::l,r,toks,_,h,hr=>by
  rw[qDJ]at h;obtain⟨a,l1,rfl,ha,h⟩:=qA4.cons h;obtain⟨b,l2,rfl,hb,h⟩:=qA4.cons h;obtain⟨c,l3,rfl,hc,h⟩:=qA4.cons h;have a1:=Tok.key_n ha;have c1:=Tok.key_n hc;have qa:a.is 1 []=true:=by rw[Tok.is_key ha];rfl
  have qb:b.is 2 [58]=true:=by rw[Tok.is_key hb];rfl
  have qc:c.is 1 []=true:=by rw[Tok.is_key hc];rfl
  rw[qDK.eq_def];simp only[if_pos qa,if_pos qb,if_pos qc];cases l with
  |nil=>
   have:=qA4.nil h;subst this;cases l3 with
   |nil=>simp[a1,c1,pcN]
   |cons d r'=>
    have:d.is 2 [44]=false:=hr;simp[this,a1,c1,pcN]
  |cons q l=>
   rw[qDJ]at h;obtain⟨d,l4,rfl,hd,h⟩:=qA4.cons h;have qd:d.is 2 [44]=true:=by rw[Tok.is_key hd];rfl
   have h':qA4 (qDJ false (q::l)) r l4:=by rw[qDJ];exact h
   have e1:=qFH (q::l) r l4 (by simp) h' hr;simp only[if_pos qd,e1,a1.2.2,c1.2.2];rfl
theorem qC4{p:Pc}{ps:List Pc}{r l:List Tok}(h:qA4 (p::ps) r l)(k:Int)(s:Bs):isT k s l=(p.k==k && (s.isEmpty||p.x==s)):=by
 obtain⟨t,l',rfl,hk,-⟩:=qA4.cons h;exact Tok.is_key hk k s
theorem qFE(row:List Pr)(r toks:List Tok)(h:qA4 (pcN (qFN row)::pcC 58::pcL false row.tail) r toks)(h0:qEt row=true)(h1:isT 2 [44] r=false)(h2:isT 1 [] r=false):∃l',qDz toks=.ok (l',r)/\stL l'=stL row:=by
 obtain⟨a,l1,rfl,ha,h⟩:=qA4.cons h;obtain⟨b,l2,rfl,hb,h⟩:=qA4.cons h;have a1:=Tok.key_n ha;have qa:a.is 1 []=true:=by rw[Tok.is_key ha];rfl
 have qb:b.is 2 [58]=true:=by rw[Tok.is_key hb];rfl
 cases row with
 |nil=>cases h0
 |cons p row=>
  have hp:p.name=[]:=by simpa[qEt]using h0
  have e0:stL [⟨a.n,[],a.at_⟩]=[p.st]:=by
   simp only[stL,List.map_cons,List.map_nil,Pr.st];rw[a1.2.2,hp];rfl
  unfold qDz;simp only[qAR,if_pos qa,if_pos qb];cases row with
  |nil=>
   have:=qA4.nil h;subst this;rw[if_neg (by rw[h2];decide)];exact⟨_,rfl,e0⟩
  |cons q row=>
   have hi:isT 1 [] l2=true:=by
    rw[show(p::q::row).tail=q::row from rfl,pcL]at h;rw[qC4 h];rfl
   obtain⟨l',e1,e2⟩:=qBU (q::row) r l2 (by simp) h h1;rw[if_pos hi,e1];refine⟨_,rfl,?_⟩
   show Pr.st _::stL l'=p.st::stL (q::row)
   rw[e2];have:=List.cons.inj e0;rw[<-this.1]
theorem qEH:∀(l:List (List Pr)) (f:Nat) (r toks:List Tok),l≠[]->l.length<=f->qA4 (qBG false l) r toks->(∀x∈l,qEt x=true)->isT 2 [44] r=false->isT 1 [] r=false->isT 2 [43] r=false->
 ∃l',qBk f toks=.ok (l',r)/\l'.map stL=l.map stL
 |[],_,_,_,h,_,_,_,_,_,_=>absurd rfl h
 |p::l,0,_,_,_,h,_,_,_,_,_=>by simp at h
 |p::l,f+1,r,toks,_,hf,h,hok,h1,h2,h3=>by
  rw[qBG]at h;obtain⟨m,ha,hb⟩:=qA4.app h;rw[qBk];cases l with
  |nil=>
   have:=qA4.nil hb;subst this;obtain⟨x,e1,e2⟩:=qFE p m toks ha (hok p (by simp)) h1 h2;rw[e1];simp only[h3];exact⟨[x],rfl,by simp[e2]⟩
  |cons q l=>
   rw[qBG]at hb;have m1:isT 2 [44] m=false:=by rw[qC4 hb];rfl
   have m2:isT 1 [] m=false:=by rw[qC4 hb];rfl
   have m3:isT 2 [43] m=true:=by rw[qC4 hb];rfl
   obtain⟨x,e1,e2⟩:=qFE p m toks ha (hok p (by simp)) m1 m2;obtain⟨t,m',rfl,ht,hb⟩:=qA4.cons hb;have hb':qA4 (qBG false (q::l)) r m':=by rw[qBG];exact hb
   obtain⟨l',e3,e4⟩:=qEH (q::l) f r m' (by simp) (by simpa using hf) hb' (fun x hx=>hok x (by simp[hx])) h1 h2 h3;rw[e1];simp only[m3,if_true];rw[show(t::m').drop 1=m' from rfl,e3];refine⟨_,rfl,?_⟩;simp only[List.map_cons]at e4 ⊢;rw[e2,e4]
def qBq(d:Dc)(S:Fg->Bool):Dc:=
 { kind:=d.kind,name:=d.name,at_:=0,object:=S .object && d.object,mixed:=S .mixed && d.mixed,coin:=S .coin && d.coin,wear:=if S .wear then d.wear else 0,bind:=if S .bind then d.bind else 0,level:=if S .level then d.level else 0,time:=if S .time then d.time else 0,chance:=if S .chance then d.chance else 0,of_:=if S .chance then d.of_ else 0,take:=if S .take then stL d.take else [],give:=if S .give then stL d.give else [],back:=if S .back then stL d.back else [],rows:=[],brs:=[] }
def qBX(S:Fg->Bool)(x:Fg):Fg->Bool:=fun y=>decide (y=x)||S y
theorem qFz(d:Dc)(x:Fg):qFA d x=[]\/ ∃ps,qFA d x=pcW x.word::ps:=by
 cases x<;>simp only[qFA,qIX,qEv,qDx,qBH,qCE,Fg.word]<;>(split<;>(try split)<;>first|exact .inl rfl|exact .inr ⟨_,rfl⟩)
theorem qHk{d:Dc}{x:Fg}(h:qFA d x=[])(hb:0<=d.bind/\d.bind<=2)(S:Fg->Bool):qBq d (qBX S x)=qBq d S:=by
 cases x<;>simp only[qFA,qIX,qEv,qDx,qBH,qCE]at h<;>simp only[qBq,qBX]
 ·cases ho:d.object<;>simp_all
 ·cases ho:d.mixed<;>simp_all
 ·cases ho:d.coin<;>simp_all
 ·have:d.wear=0:=by by_cases e:d.wear=0;exact e;simp[e]at h
  simp[this]
 ·have:d.bind=0:=by
   by_cases e:d.bind=1
   ·simp[e]at h
   ·by_cases e2:d.bind=2
    ·simp[e2]at h
    ·omega
  simp[this]
 ·have:d.level=0:=by by_cases e:d.level=0;exact e;simp[e]at h
  simp[this]
 ·have:d.time=0:=by by_cases e:d.time=0;exact e;simp[e]at h
  simp[this]
 ·have:d.chance=0/\d.of_=0:=by by_cases e:d.chance=0/\d.of_=0;exact e;simp[e]at h
  simp[this]
 ·have:d.take=[]:=by by_cases e:d.take=[];exact e;simp[e]at h
  simp[this,stL]
 ·have:d.give=[]:=by by_cases e:d.give=[];exact e;simp[e]at h
  simp[this,stL]
 ·have:d.back=[]:=by by_cases e:d.back=[];exact e;simp[e]at h
  simp[this,stL]
theorem qJk{d d0:Dc}{x:Fg}{ps:List Pc}{S:Fg->Bool}{r toks:List Tok}(hx:qFA d x=pcW x.word::ps)(h:qA4 ps r toks)(h0:d0.st=qBq d S)(hr:isT 2 [44] r=false):
 ∃d1,pFg x d0 toks=.ok (d1,r)/\d1.st=qBq d (qBX S x):=by
 have num:∀{n:Int} {l:List Tok} {m:List Tok},qA4 [pcN n] m l->qBg l=.ok (n,m):=by
  intro n l m h;obtain⟨t,l',rfl,ht,h⟩:=qA4.cons h;have:=qA4.nil h;subst this;have q:t.is 1 []=true:=by rw[Tok.is_key ht];rfl
  unfold qBg;simp only[qAR,if_pos q,(Tok.key_n ht).2.2];rfl
 unfold Dc.st qBq at h0;simp only[Dc.mk.injEq]at h0;obtain⟨e1,e2, -,e3,e4,e5,e6,e7,e8,e9,e10,e11,e12,e13,e14,e15,e16⟩:=h0;have e15':d0.rows=[]:=by simpa using e15
 cases x<;>simp only[qFA,qIX,qEv,qDx,qBH,qCE,Fg.word]at hx
 ·cases ho:d.object<;>simp[ho]at hx
  subst hx;have:=qA4.nil h;subst this;refine⟨_,rfl,?_⟩;simp only[Dc.st,qBq,qBX,Dc.mk.injEq]
  simp_all
 ·cases ho:d.mixed<;>simp[ho]at hx
  subst hx;have:=qA4.nil h;subst this;refine⟨_,rfl,?_⟩;simp only[Dc.st,qBq,qBX,Dc.mk.injEq]
  simp_all
 ·cases ho:d.coin<;>simp[ho]at hx
  subst hx;have:=qA4.nil h;subst this;refine⟨_,rfl,?_⟩;simp only[Dc.st,qBq,qBX,Dc.mk.injEq]
  simp_all
 ·by_cases e:d.wear=0
  ·simp[e]at hx
  ·rw[if_neg e]at hx
   injection hx with _ hx;subst hx;unfold pFg;rw[num h];refine⟨_,rfl,?_⟩;simp only[Dc.st,qBq,qBX,Dc.mk.injEq]
   simp_all
 ·by_cases e:d.bind=1
  ·rw[if_pos e]at hx
   injection hx with _ hx;subst hx;obtain⟨t,l',rfl,ht,h⟩:=qA4.cons h;have:=qA4.nil h;subst this;have q1:isT 0 qG9 (t::l')=false:=by show t.is 0 qG9=false;rw[Tok.is_key ht];decide
   have q2:isT 0 qHO (t::l')=true:=by show t.is 0 qHO=true;rw[Tok.is_key ht];decide
   unfold pFg;simp only[q1,q2,if_true];refine⟨_,rfl,?_⟩;simp only[Dc.st,qBq,qBX,Dc.mk.injEq]
   simp_all
  ·rw[if_neg e]at hx
   by_cases e2:d.bind=2
   ·rw[if_pos e2]at hx
    injection hx with _ hx;subst hx;obtain⟨t,l',rfl,ht,h⟩:=qA4.cons h;have:=qA4.nil h;subst this;have q1:isT 0 qG9 (t::l')=true:=by show t.is 0 qG9=true;rw[Tok.is_key ht];decide
    unfold pFg;simp only[q1,if_true];refine⟨_,rfl,?_⟩;simp only[Dc.st,qBq,qBX,Dc.mk.injEq]
    simp_all
   ·rw[if_neg e2]at hx;cases hx
 ·by_cases e:d.level=0
  ·simp[e]at hx
  ·rw[if_neg e]at hx
   injection hx with _ hx;subst hx;unfold pFg;rw[num h];refine⟨_,rfl,?_⟩;simp only[Dc.st,qBq,qBX,Dc.mk.injEq]
   simp_all
 ·by_cases e:d.time=0
  ·simp[e]at hx
  ·rw[if_neg e]at hx
   injection hx with _ hx;subst hx;unfold pFg;rw[num h];refine⟨_,rfl,?_⟩;simp only[Dc.st,qBq,qBX,Dc.mk.injEq]
   simp_all
 ·by_cases e:d.chance=0/\d.of_=0
  ·simp[e]at hx
  ·rw[if_neg e]at hx
   injection hx with _ hx;subst hx;obtain⟨m,h1,h2⟩:=qA4.app (a:=[pcN d.chance]) h;obtain⟨t,l',rfl,ht,h3⟩:=qA4.cons h2;have q1:t.is 0 wOf=true:=by rw[Tok.is_key ht];decide
   unfold pFg;rw[num h1];simp only[qAR,if_pos q1,num h3];refine⟨_,rfl,?_⟩;simp only[Dc.st,qBq,qBX,Dc.mk.injEq]
   simp_all
 ·by_cases e:d.take=[]
  ·simp[e]at hx
  ·rw[if_neg (by simpa using e)]at hx
   injection hx with _ hx;subst hx;obtain⟨l',e17,e18⟩:=qBU d.take r toks e h hr;unfold pFg;rw[e17];refine⟨_,rfl,?_⟩;simp only[Dc.st,qBq,qBX,Dc.mk.injEq]
   simp_all
 ·by_cases e:d.give=[]
  ·simp[e]at hx
  ·rw[if_neg (by simpa using e)]at hx
   injection hx with _ hx;subst hx;obtain⟨l',e17,e18⟩:=qBU d.give r toks e h hr;unfold pFg;rw[e17];refine⟨_,rfl,?_⟩;simp only[Dc.st,qBq,qBX,Dc.mk.injEq]
   simp_all
 ·by_cases e:d.back=[]
  ·simp[e]at hx
  ·rw[if_neg (by simpa using e)]at hx
   injection hx with _ hx;subst hx;obtain⟨l',e17,e18⟩:=qBU d.back r toks e h hr;unfold pFg;rw[e17];refine⟨_,rfl,?_⟩;simp only[Dc.st,qBq,qBX,Dc.mk.injEq]
   simp_all
def qIQ(d:Dc):Prop:=0<=d.bind/\d.bind<=2
theorem qFT{d:Dc}{k:Int}{s:Bs}(hk:∀x:Fg,((0:Int)==k && (s.isEmpty||x.word==s))=false){r:List Tok}(hr:isT k s r=false):∀(xs:List Fg) (m:List Tok),qA4 (xs.flatMap (qFA d)) r m->isT k s m=false
 |[],m,h=>by rw[qA4.nil h];exact hr
 |x::xs,m,h=>by
  rw[List.flatMap_cons]at h;rcases qFz d x with e|⟨ps,e⟩
  ·rw[e]at h
   exact qFT hk hr xs m h
  ·rw[e]at h
   rw[qC4 h];exact hk x
def qCG(xs:List Fg)(S:Fg->Bool):Fg->Bool:=fun y=>decide (y∈xs)||S y
theorem qDk{known:List Fg}(hw:∀x∈known,known.find? (fun y=>x.word==y.word)=some x){d:Dc}(hb:qIQ d):∀(xs:List Fg) (f:Nat) (seen:List Fg) (d0:Dc) (S:Fg->Bool) (r toks:List Tok),
 xs.Nodup->(∀x∈xs,x∈known)->(∀x∈xs,x∉seen)->toks.length<f->qA4 (xs.flatMap (qFA d)) r toks->d0.st=qBq d S->isT 0 [] r=false->isT 2 [44] r=false->
 ∃d1,qAX known f seen d0 toks=.ok (d1,r)/\d1.st=qBq d (qCG xs S)
 |[],f,seen,d0,S,r,toks,_,_,_,hf,h,h0,h1,h2=>by
  have:=qA4.nil h;subst this;have hS:qCG [] S=S:=by funext y;simp[qCG]
  rw[hS];obtain⟨f,rfl⟩:∃g,f=g+1:=⟨f-1,by omega⟩;cases toks with
  |nil=>exact⟨d0,rfl,h0⟩
  |cons t r=>
   have:t.is 0 []=false:=h1;refine⟨d0,?_,h0⟩;simp only[qAX,this];rfl
 |x::xs,f,seen,d0,S,r,toks,hn,hm,hs,hf,h,h0,h1,h2=>by
  rw[List.flatMap_cons]at h;have hn':=List.nodup_cons.1 hn;have hS:qCG xs (qBX S x)=qCG (x::xs) S:=by
   funext y
   simp only[qCG,qBX,List.mem_cons];by_cases e1:y=x<;>by_cases e2:y∈xs<;>simp[e1,e2]
  rcases qFz d x with e|⟨ps,e⟩
  ·rw[e]at h
   obtain⟨d1,e1,e2⟩:=qDk hw hb xs f seen d0 (qBX S x) r toks hn'.2 (fun y hy=>hm y (by simp[hy])) (fun y hy=>hs y (by simp[hy])) hf h (by rw[qHk e hb];exact h0) h1 h2;rw[hS]at e2;exact⟨d1,e1,e2⟩
  ·obtain⟨m,ha,hb2⟩:=qA4.app h
   have hm2:isT 2 [44] m=false:=qFT (fun y=>by simp) h2 xs m hb2;rw[e]at ha;obtain⟨t,l',rfl,ht,ha⟩:=qA4.cons ha;obtain⟨d1,e1,e2⟩:=qJk e ha h0 hm2;have hl:m.length<=l'.length:=by
    obtain⟨ts,rfl,-⟩:=ha;simp
   obtain⟨f,rfl⟩:∃g,f=g+1:=⟨f-1,by omega⟩;obtain⟨d2,e3,e4⟩:=qDk hw hb xs f (x::seen) d1 (qBX S x) r m hn'.2 (fun y hy=>hm y (by simp[hy])) (fun y hy hc=>by
    rcases List.mem_cons.1 hc with rfl|hc
    ·exact hn'.1 hy
    ·exact hs y (by simp[hy]) hc) (by simp only[List.length_cons]at hf;omega) hb2 e2 h1 h2
   rw[hS]at e4;refine⟨d2,?_,e4⟩;have q1:t.is 0 []=true:=by rw[Tok.is_key ht];rfl
   have q2:t.text=x.word:=(Tok.key_n ht).2.1;have q3:seen.contains x=false:=by
    have:=hs x (by simp);simpa using this
   simp only[qAX,if_pos q1,q2,hw x (hm x (by simp)),q3,e1];exact e3
theorem qF8:∀x∈qCb,qCb.find? (fun y=>x.word==y.word)=some x:=by decide +kernel
theorem qF7:∀x∈qBI,qBI.find? (fun y=>x.word==y.word)=some x:=by decide +kernel
theorem qGJ{α:Type}(l:List α)(k:Nat)(x:α):x∈qJT l k ↔ x∈l:=by
 unfold qJT
 conv=>rhs;rw[<-List.take_append_drop k l]
 simp only[List.mem_append];exact Or.comm
theorem qHj{α:Type}(l:List α)(k:Nat)(h:l.Nodup):(qJT l k).Nodup:=by
 unfold qJT;rw[<-List.take_append_drop k l]at h;exact(List.perm_append_comm.nodup_iff).1 h
theorem qHl{d:Dc}(h:qAN d=true)(hk:d.kind<=2)(S:Fg->Bool)(hS:∀x∈qCN d.kind,S x=true):qBq d S=d.st:=by
 unfold qAN at h;by_cases h0:d.kind=0
 ·rw[if_pos h0]at h
  simp only[qCN,if_pos h0,qCb,List.mem_cons,List.not_mem_nil,or_false,forall_eq_or_imp,forall_eq]at hS;obtain⟨s1,s2,s3,s4,s5,s6⟩:=hS;simp[qB9]at h;obtain⟨⟨⟨⟨hr,h7⟩,h8⟩,-⟩,-⟩:=h;simp[qBq,Dc.st,s1,s2,s3,s4,s5,s6,hr,h7,h8,stL]
 ·rw[if_neg h0]at h
  by_cases h12:d.kind=1\/d.kind=2
  ·rw[if_pos h12]at h
   simp only[qCN,if_neg h0,qBI,List.mem_cons,List.not_mem_nil,or_false,forall_eq_or_imp,forall_eq]at hS;obtain⟨s1,s2,s3,s4,s5,s6⟩:=hS;simp[qBK]at h;obtain⟨⟨⟨⟨⟨⟨h1,h2⟩,h3⟩,h4⟩,h5⟩,h6⟩,h7⟩:=h;simp[qBq,Dc.st,s1,s2,s3,s4,s5,s6,h1,h2,h3,h4,h5,h6,h7,stL]
  ·rw[if_neg h12,if_neg (by omega),if_neg (by omega)]at h
   cases h
def qEF(d:Dc)(k:Nat):List Pc:=if d.kind<=2 then (qJT (qCN d.kind) k).flatMap (qFA d)else qBG false d.rows++qDJ false d.brs
def pcD(d:Dc)(k:Nat):List Pc:=⟨[],0,qAo.getD d.kind.toNat [],0⟩::pcW d.name::(qEF d k++[pcC 59])
theorem qI9(s:Bs)(k:Nat):qHi [s] k=s:=by
 cases k with
 |zero=>simp[qHi]
 |succ k=>simp[qHi]
theorem qJb(d:Dc)(k:Nat):qAn (pcD d k)++[10]=qBw d k:=by
 unfold pcD qBw;simp only[qAn,List.nil_append,List.append_assoc];rw[qAA]
 congr 1
 have:qAn (qEF d k)=qHi (qAf d) k:=by
  unfold qEF;by_cases h:d.kind<=2
  ·rw[if_pos h,qFC d k h]
  ·rw[if_neg h,qAA,qD1,qED]
   unfold qAf;rw[if_neg (by omega),if_neg h,qI9]
 rw[this];simp[qAn,pcW,pcC]
theorem qDp{d:Dc}(h:qAN d=true):0<=d.kind/\d.kind<=4:=by
 unfold qAN at h;by_cases h0:d.kind=0
 ·omega
 ·rw[if_neg h0]at h
  by_cases h1:d.kind=1\/d.kind=2
  ·omega
  ·rw[if_neg h1]at h
   by_cases h3:d.kind=3
   ·omega
   ·rw[if_neg h3]at h
    by_cases h4:d.kind=4
    ·omega
    ·rw[if_neg h4]at h;cases h
theorem qIP{d:Dc}(h:qAN d=true):qIQ d:=by
 unfold qAN at h;unfold qIQ;by_cases h0:d.kind=0
 ·rw[if_pos h0]at h
  simp at h;omega
 ·rw[if_neg h0]at h
  have:qBK d=false:=by
   split at h
   ·simp at h;exact h.1.1
   ·split at h
    ·simp at h;exact h.1.1.1.1.1
    ·split at h
     ·simp at h;exact h.1.1.1.1
     ·cases h
  unfold qBK at this;simp at this;omega
theorem qJj:∀i:Fin 5,qAo.findIdx? (fun x=>(0:Int)==0 && (x.isEmpty||qAo.getD i.1 []==x))=some i.1:=by decide +kernel
theorem qHv{d d0:Dc}(h:qAN d=true)(k:Nat){r toks:List Tok}(hf:qA4 (qEF d k) r toks)(h0:d0=Dc.zero d.kind d.name d0.at_)(h1:isT 0 [] r=false)(h2:isT 2 [44] r=false)(h3:isT 1 [] r=false)(h4:isT 2 [43] r=false):
 ∃d1,qA7 d.kind.toNat d0 toks=.ok (d1,r)/\d1.st=d.st:=by
 have hk:=qDp h;have hz:d0.st=qBq d (fun _=>false):=by rw[h0];simp[Dc.zero,Dc.st,qBq,stL]
 unfold qEF at hf;by_cases hk2:d.kind<=2
 ·rw[if_pos hk2]at hf
  have hw:∀x∈qCN d.kind,(qCN d.kind).find? (fun y=>x.word==y.word)=some x:=by
   unfold qCN
   split
   ·exact qF8
   ·exact qF7
  have hnd:(qCN d.kind).Nodup:=by
   unfold qCN
   split<;>decide
  obtain⟨d1,e1,e2⟩:=qDk hw (qIP h) (qJT (qCN d.kind) k) (toks.length+1) [] d0 (fun _=>false) r toks (qHj _ _ hnd) (fun x hx=>(qGJ _ _ _).1 hx) (fun x _=>by simp) (by omega) hf hz h1 h2;refine⟨d1,?_,?_⟩
  ·unfold qA7
   unfold qCN at e1;by_cases h00:d.kind=0
   ·rw[if_pos (by omega)]
    rw[if_pos h00]at e1;exact e1
   ·rw[if_neg (by omega),if_pos (by omega)]
    rw[if_neg h00]at e1;exact e1
  ·rw[e2]
   exact qHl h hk2 _ (fun x hx=>by
    have:=(qGJ (qCN d.kind) k x).2 hx;simp[qCG,this])
 ·rw[if_neg hk2]at hf
  have hs:=h;unfold qAN at hs;rw[if_neg (by omega),if_neg (by omega)]at hs;unfold qA7;rw[if_neg (by omega),if_neg (by omega)];by_cases h3':d.kind=3
  ·rw[if_pos h3']at hs
   simp[qBK,qB9]at hs;obtain⟨⟨⟨⟨⟨g1,g2⟩,g3⟩,g4⟩,g5⟩,g6⟩:=hs;rw[if_pos (by omega)];rw[g4,show qDJ false []=[]from rfl,List.append_nil]at hf;have hle:d.rows.length<=toks.length:=by
    have:∀(l:List (List Pr)) (b:Bool),l.length<=(qBG b l).length:=by
     intro l
     induction l with
     |nil=>intro b;simp
     |cons x l ih=>intro b;have:=ih true;rw[qBG];simp;omega
    obtain⟨ts,rfl,hts⟩:=hf;have h5:=congrArg List.length hts;simp only[List.length_map]at h5;have:=this d.rows false;rw[List.length_append];omega
   obtain⟨l',e1,e2⟩:=qEH d.rows (toks.length+1) r toks g5 (by omega) hf (fun x hx=>g6 x hx) h2 h3 h4;rw[e1];refine⟨_,rfl,?_⟩;rw[h0];simp only[Dc.st,Dc.zero,Dc.mk.injEq];simp[g1,g2,g3,g4,e2,stL]
  ·rw[if_neg h3']at hs
   have h4':d.kind=4:=by omega
   rw[if_pos h4']at hs;simp[qBK,qB9]at hs;obtain⟨⟨⟨⟨g1,g2⟩,g3⟩,g4⟩,g5⟩:=hs;rw[if_neg (by omega)];rw[g4,show qBG false []=[]from rfl,List.nil_append]at hf;have e1:=qFH d.brs r toks g5 hf h2;rw[e1];refine⟨_,rfl,?_⟩;rw[h0];simp only[Dc.st,Dc.zero,Dc.mk.injEq];simp[g1,g2,g3,g4,stL]
theorem qHt{d:Dc}(h:qAN d=true)(k:Nat){r toks:List Tok}(hf:qA4 (pcD d k) r toks):∃d1,qBl toks=.ok (d1,r)/\d1.st=d.st/\r.length<toks.length:=by
 have hk:=qDp h;have hlen:r.length<toks.length:=by
  obtain⟨ts,rfl,hts⟩:=hf;have:=congrArg List.length hts;simp[pcD]at this;rw[List.length_append];omega
 unfold pcD at hf;obtain⟨a,l1,rfl,ha,hf⟩:=qA4.cons hf;obtain⟨b,l2,rfl,hb,hf⟩:=qA4.cons hf;obtain⟨m,h1,h2⟩:=qA4.app hf;obtain⟨c,l3,rfl,hc,h3⟩:=qA4.cons h2;have:=qA4.nil h3;subst this;have q1:qBP (a::b::l2)=some d.kind.toNat:=by
  have:=qJj ⟨d.kind.toNat,by omega⟩;unfold qBP;rw[<-this]
  congr 1
  funext x
  exact Tok.is_key ha 0 x
 have q2:b.is 0 []=true:=by rw[Tok.is_key hb];rfl
 have q3:c.is 2 [59]=true:=by rw[Tok.is_key hc];decide
 have qn:b.text=d.name:=(Tok.key_n hb).2.1;have s1:isT 0 [] (c::l3)=false:=by show c.is _ _=_;rw[Tok.is_key hc];decide
 have s2:isT 2 [44] (c::l3)=false:=by show c.is _ _=_;rw[Tok.is_key hc];decide
 have s3:isT 1 [] (c::l3)=false:=by show c.is _ _=_;rw[Tok.is_key hc];decide
 have s4:isT 2 [43] (c::l3)=false:=by show c.is _ _=_;rw[Tok.is_key hc];decide
 have hkk:((d.kind.toNat:Nat):Int)=d.kind:=by omega
 obtain⟨d1,e1,e2⟩:=qHv (d0:=Dc.zero d.kind b.text b.at_) h k h1 (by rw[qn];rfl) s1 s2 s3 s4;refine⟨d1,?_,e2,hlen⟩;unfold qBl;rw[q1];simp only[List.drop_succ_cons,List.drop_zero,qAR,if_pos q2,hkk,e1,if_pos q3]
def okW:Bs->Bool
 |[]=>false
 |c::r=>cl c==1 && r.all wb && decide (r.length<=15)
theorem qBV{w:Bs}(h:okW w=true):qB8 0 w 0:=by
 cases w with
 |nil=>cases h
 |cons c r=>
  simp only[okW,Bool.and_eq_true,beq_iff_eq,List.all_eq_true,decide_eq_true_eq]at h;exact .word c r h.1.1 h.1.2 h.2
theorem qKG(x:Fg):okW x.word=true:=by cases x<;>decide +kernel
theorem qCw{w:Bs}(h:qB8 0 w 0):OkP (pcW w):=⟨h,.inl qKA.blank⟩
theorem qCK{n:Int}(h:qAj n=true):OkP (pcN n):=by
 simp only[qAj,Bool.and_eq_true,decide_eq_true_eq]at h;refine⟨?_,.inl qKA.blank⟩;have:=qIx n.toNat (by omega);rw[show((n.toNat:Nat):Int)=n by omega]at this;exact this
theorem qEc{c:UInt8}(h:cl c=4):OkP (pcC c):=⟨.sym c h,.inr ⟨rfl,rfl⟩⟩
def qA8(l:List Pc):Prop:=∀p∈l,OkP p
theorem qA8.nil:qA8 []:=nofun
theorem qA8.cons{p:Pc}{l:List Pc}(h:OkP p)(h':qA8 l):qA8 (p::l):=fun q hq=>by
 rcases List.mem_cons.1 hq with rfl|hq
 ·exact h
 ·exact h' q hq
theorem qA8.app{a b:List Pc}(h:qA8 a)(h':qA8 b):qA8 (a++b):=fun q hq=>(List.mem_append.1 hq).elim (h q) (h' q)
theorem qKv:∀(l:List Pr) (b:Bool),qAJ l=true->okL l=true->qA8 (pcL b l)
 |[],b,_,_=>by cases b<;>exact qA8.nil
 |p::l,b,hn,ho=>by
  simp only[qAJ,okL,List.all_cons,Bool.and_eq_true]at hn ho;have h1:=qA8.cons (qCK ho.1) (qA8.cons (qCw (qEO hn.1)) (qKv l true hn.2 ho.2));rw[pcL];cases b
  ·exact h1
  ·exact qA8.cons (qEc (by decide)) h1
theorem qG4:∀(l:List (List Pr)) (b:Bool),(∀r∈l,qAJ r.tail=true)->(∀r∈l,okL r=true)->qA8 (qBG b l)
 |[],b,_,_=>by cases b<;>exact qA8.nil
 |r::l,b,hn,ho=>by
  have h2:=qG4 l true (fun x hx=>hn x (by simp[hx])) (fun x hx=>ho x (by simp[hx]));have o:=ho r (by simp);have ht:okL r.tail=true:=by
   cases r with
   |nil=>rfl
   |cons p r=>
    simp only[okL,List.all_cons,Bool.and_eq_true]at o;exact o.2
  have hh:qAj (qFN r)=true:=by
   cases r with
   |nil=>rfl
   |cons p r=>
    simp only[okL,List.all_cons,Bool.and_eq_true]at o;exact o.1
  have h1:=qA8.app (qA8.cons (qCK hh) (qA8.cons (qEc (c:=58) (by decide)) (qKv r.tail false (hn r (by simp)) ht))) h2;rw[qBG];cases b
  ·exact h1
  ·exact qA8.cons ⟨.sym 43 (by decide),.inl qKA.blank⟩ h1
theorem qIS:∀(l:List (Int×Int)) (b:Bool),(∀r∈l,qAj r.1=true/\qAj r.2=true)->qA8 (qDJ b l)
 |[],b,_=>by cases b<;>exact qA8.nil
 |r::l,b,ho=>by
  have h2:=qIS l true (fun x hx=>ho x (by simp[hx]));have o:=ho r (by simp);have h1:=qA8.cons (qCK o.1) (qA8.cons (qEc (c:=58) (by decide)) (qA8.cons (qCK o.2) h2));rw[qDJ];cases b
  ·exact h1
  ·exact qA8.cons (qEc (by decide)) h1
theorem qBE{d:Dc}(h:qFk d=0):qAN d=true/\qDL d=true/\qBs d=true:=by
 unfold qFk at h;cases h1:qAN d<;>cases h2:qDL d<;>cases h3:qBs d<;>simp[h1,h2,h3]at h ⊢
theorem qKW{d:Dc}(hn:qDL d=true)(hr:qBs d=true)(x:Fg):qA8 (qFA d x):=by
 have hw:∀y:Fg,OkP (pcW y.word):=fun y=>qCw (qBV (qKG y));have cnt:∀(y:Fg) {n:Int},qAj n=true->qA8 (qEv y.word n):=by
  intro y n h;unfold qEv
  split
  ·exact qA8.nil
  ·exact qA8.cons (hw y) (qA8.cons (qCK h) qA8.nil)
 have part:∀(y:Fg) {l:List Pr},qAJ l=true->okL l=true->qA8 (qCE y.word l):=by
  intro y l h h';unfold qCE
  split
  ·exact qA8.nil
  ·exact qA8.cons (hw y) (qKv l false h h')
 have fl:∀(y:Fg) (b:Bool),qA8 (qIX y.word b):=by
  intro y b;unfold qIX
  split
  ·exact qA8.cons (hw y) qA8.nil
  ·exact qA8.nil
 simp only[qDL,qBs,Bool.and_eq_true]at hn hr;obtain⟨⟨⟨⟨⟨⟨⟨⟨⟨r1,r2⟩,r3⟩,r4⟩,r5⟩,r6⟩,r7⟩,r8⟩,r9⟩,r10⟩:=hr;obtain⟨⟨n1,⟨n2,n3⟩,n4⟩,n5⟩:=hn;cases x
 ·exact fl .object _
 ·exact fl .mixed _
 ·exact fl .coin _
 ·exact cnt .wear r1
 ·show qA8 (qDx d.bind)
  unfold qDx
  split
  ·exact qA8.cons (hw .bind) (qA8.cons (qCw (qBV (by decide +kernel))) qA8.nil)
  ·split
   ·exact qA8.cons (hw .bind) (qA8.cons (qCw (qBV (by decide +kernel))) qA8.nil)
   ·exact qA8.nil
 ·exact cnt .level r2
 ·exact cnt .time r3
 ·show qA8 (qBH d.chance d.of_)
  unfold qBH
  split
  ·exact qA8.nil
  ·exact qA8.cons (hw .chance) (qA8.cons (qCK r4) (qA8.cons (qCw (qBV (by decide +kernel))) (qA8.cons (qCK r5) qA8.nil)))
 ·exact part .take n2 r6
 ·exact part .give n3 r7
 ·exact part .back n4 r8
theorem qLj{d:Dc}(h:qFk d=0)(k:Nat):qA8 (pcD d k).tail:=by
 obtain⟨hs,hn,hr⟩:=qBE h;have hn':=hn;have hr':=hr;simp only[qDL,qBs,Bool.and_eq_true]at hn' hr';refine qA8.cons (qCw (qEO hn'.1.1)) (qA8.app ?_ (qA8.cons (qEc (by decide)) qA8.nil));unfold qEF
 split
 ·intro p hp
  obtain⟨x,_,hx⟩:=List.mem_flatMap.1 hp;exact qKW hn hr x p hx
 ·refine qA8.app (qG4 d.rows false (fun r hr9=>List.all_eq_true.1 hn'.2 r hr9) (fun r hr9=>List.all_eq_true.1 hr'.1.2 r hr9)) (qIS d.brs false (fun r hr9=> ?_))
  have:=List.all_eq_true.1 hr'.2 r hr9;simpa using this
theorem qKK{d:Dc}(h:qAN d=true):qB8 0 (qAo.getD d.kind.toNat []) 0:=by
 have hk:=qDp h;have:∀i:Fin 5,okW (qAo.getD i.1 [])=true:=by decide +kernel
 exact qBV (this ⟨d.kind.toNat,by omega⟩)
def qAZ(l:List (Dc×Nat)):Bs:=(l.map (fun x=>qBw x.1 x.2)).flatten
theorem qKI(N:Nat)(r:Bs):lx N (10::r)=lx N r:=by rw[<-qDn,qEY 10 r (by decide),qDn]
theorem qFc(N:Nat)(f:Bs):∀l:List (Dc×Nat),(∀x∈l,qFk x.1=0)->∃ts,lx N (qAZ l++f)=qIa ts (lx N f)/\ts.map Tok.key=(l.flatMap (fun x=>pcD x.1 x.2)).map Pc.key
 |[],_=>⟨[],by rw[qGK];rfl,rfl⟩
 |x::l,h=>by
  obtain⟨ts,h1,h2⟩:=qFc N f l (fun y hy=>h y (by simp[hy]));have hx:=h x (by simp);obtain⟨us,h3,h4⟩:=qHA N (10::(qAZ l++f)) (fun k=>qHc (.inl (by decide)) _ k) ⟨[],0,qAo.getD x.1.kind.toNat [],0⟩ (pcD x.1 x.2).tail (qKK (qBE hx).1) rfl (qLj hx x.2);refine⟨us++ts,?_,by rw[List.map_append,h4,h2,List.flatMap_cons,List.map_append];rfl⟩;have e:qAZ (x::l)++f=qAn (pcD x.1 x.2)++(10::(qAZ l++f)):=by
   have:=qJb x.1 x.2
   show qBw x.1 x.2++qAZ l++f=_
   rw[<-this];simp
  rw[e];refine h3.trans ?_;rw[qKI,h1,qE4]
theorem qD9:∀(l:List (Dc×Nat)) (f:Nat) (toks:List Tok),(∀x∈l,qAN x.1=true)->toks.length<f->qA4 (l.flatMap (fun x=>pcD x.1 x.2)) [] toks->∃ds,qEo f toks=.ok ds/\ds.map Dc.st=l.map (fun x=>x.1.st)
 |[],f,toks,_,hf,h=>by
  have:=qA4.nil h;subst this;obtain⟨f,rfl⟩:∃g,f=g+1:=⟨f-1,by omega⟩;exact⟨[],rfl,rfl⟩
 |x::l,f,toks,hs,hf,h=>by
  rw[List.flatMap_cons]at h;obtain⟨m,h1,h2⟩:=qA4.app h;obtain⟨d1,e1,e2,e3⟩:=qHt (hs x (by simp)) x.2 h1;obtain⟨f,rfl⟩:∃g,f=g+1:=⟨f-1,by omega⟩;obtain⟨ds,e4,e5⟩:=qD9 l f m (fun y hy=>hs y (by simp[hy])) (by omega) h2;refine⟨d1::ds,?_,by simp only[List.map_cons,e2,e5]⟩;cases toks with
  |nil=>simp at e3
  |cons t r=>rw[qEo];simp only[e1,e4]
theorem qHp(l:List (Dc×Nat))(h:∀x∈l,qFk x.1=0)(hl:(qAZ l).length<=8192):∃ds,qAt (qAZ l)=.ok ds/\ds.map Dc.st=l.map (fun x=>x.1.st):=by
 obtain⟨ts,h1,h2⟩:=qFc (qAZ l).length [] l h;rw[List.append_nil]at h1;have e0:lx (qAZ l).length []=.ok []:=by rw[qEf];rfl
 rw[e0]at h1;have h1':lx (qAZ l).length (qAZ l)=.ok ts:=by rw[h1];simp[qIa]
 obtain⟨ds,e1,e2⟩:=qD9 l (ts.length+1) ts (fun x hx=>(qBE (h x hx)).1) (by omega) ⟨ts,by simp,h2⟩;refine⟨ds,?_,e2⟩;unfold qAt;rw[if_neg (by omega),h1'];simp only[qDy,e1]
end Go.Proofs.YtpmnbcdjoomgcaaDoor
