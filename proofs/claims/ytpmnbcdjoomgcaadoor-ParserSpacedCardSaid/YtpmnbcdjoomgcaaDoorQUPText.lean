/- The tokens of the text of declarations, and reading them, in plain Lean. -/
import Derived.Test.YtpmnbcdjoomgcaaDoorQURefWalks
import Derived.Test.YtpmnbcdjoomgcaaDoorQUQOnce
import Derived.Lib.Builder
import Derived.Lib.AppendStr
import Derived.Lib.UnsafeStr
set_option linter.unusedVariables false
set_option linter.unusedSimpArgs false
set_option maxHeartbeats 2000000
set_option maxRecDepth 100000
namespace Go.Proofs.YtpmnbcdjoomgcaaDoor
open Go.RowKit
abbrev PX:List TypeId:=[85,5]
def qE1(B:Nat)(w:World)(b:Nat)(p:Value)(t:Bs)(line:Bool):Prop:=
 B<=b/\∃v,w.heap[b]? =some (.cells #[p,v,.bool line] 85 (0,0))/\w.ownsRow B 5 1 v t.length (Lib.byteCells t)
def PSt(B:Nat)(w:World)(b:Nat)(t:Bs)(line:Bool):Prop:=qE1 B w b (.pointer none) t line\/qE1 B w b (.pointer (some ⟨b,0,none⟩)) t line
def PKp(B:Nat)(w w':World):Prop:=Below B w w'/\KpX PX w w'
theorem PKp.refl(B:Nat)(w:World):PKp B w w:=⟨Below.refl _ _,KpX.refl _ _⟩
theorem PKp.trans{B:Nat}{w w1 w2:World}(h:PKp B w w1)(h':PKp B w1 w2):PKp B w w2:=⟨h.1.trans h'.1,h.2.trans h'.2⟩
theorem PKp.behind{B:Nat}{w w1:World}(hB:B<=w.heap.size)(h:Below w.heap.size w w1):PKp B w w1:=⟨h.mono hB,KpX.of_below h⟩
theorem qE1.lt{B b:Nat}{w:World}{p:Value}{t:Bs}{line:Bool}(h:qE1 B w b p t line):b<w.heap.size:=by
 obtain⟨_,v,h1,_⟩:=h;exact qAo h1
theorem PSt.lt{B b:Nat}{w:World}{t:Bs}{line:Bool}(h:PSt B w b t line):b<w.heap.size:=h.elim qE1.lt qE1.lt
theorem qE1.kp{B b:Nat}{X:List TypeId}{w w':World}{p:Value}{t:Bs}{line:Bool}(h:qE1 B w b p t line)(hk:KpX X w w')(h1:85∉X)(h2:5∉X):qE1 B w' b p t line:=by
 obtain⟨hB,v,hb,ho⟩:=h;refine⟨hB,v,hk _ _ _ h1 hb,ho.1,?_⟩;rcases ho.2 with h0|⟨g,cap,cur,hv,hg,hh,hr⟩
 ·exact .inl h0
 ·exact .inr ⟨g,cap,cur,hv,hg,hk _ _ _ h2 hh,hr⟩
theorem PSt.kp{B b:Nat}{X:List TypeId}{w w':World}{t:Bs}{line:Bool}(h:PSt B w b t line)(hk:KpX X w w')(h1:85∉X)(h2:5∉X):PSt B w' b t line:=
 h.elim (fun h=> .inl (h.kp hk h1 h2)) (fun h=> .inr (h.kp hk h1 h2))
theorem PSt.below{B b:Nat}{w w':World}{t:Bs}{line:Bool}(h:PSt B w b t line)(hk:Below w.heap.size w w'):PSt B w' b t line:=h.kp (KpX.of_below (X:=[]) hk) (by simp) (by simp)
theorem qE1.any{B b:Nat}{w:World}{p:Value}{t:Bs}{line:Bool}(h:qE1 B w b p t line)(v:Value)(hv:w.heap[b]? =some (.cells #[p,v,.bool line] 85 (0,0))):w.ownsRow B 5 1 v t.length (Lib.byteCells t):=by
 obtain⟨_,v',h1,h2⟩:=h;have:v'=v:=by
  rw[h1]at hv;injection hv with hv;injection hv with hv;simpa using hv
 rw[<-this];exact h2
theorem qMm:(Tryd.prog.info? 83).map (·.size)=some 2:=by kernel_rfl
theorem qLX{B b:Nat}{w:World}{p:Value}{t:Bs}{line:Bool}(h:qE1 B w b p t line):w.shape? b=some (85,3):=by
 obtain⟨_,v,h1,_⟩:=h;simp[World.shape?,h1]
theorem qMn:liesAt Tryd.prog Tryd.prog.depth 85 (3/Tryd.prog.cellsOf 85) 0 83 1=true:=by kernel_rfl
theorem qF0(B b:Nat)(t:Bs)(line:Bool)(w:World)(h:PSt B w b t line):
 Calls Tryd.prog 101 #[.pointer (some ⟨b,0,none⟩)] w fun e w'=>e=.returned (.tuple #[])/\qE1 B w' b (.pointer (some ⟨b,0,none⟩)) t line/\PKp B w w':=by
 obtain⟨j,hj,hjs⟩:=Option.map_eq_some_iff.1 qMm;rcases h with h|h
 ·have H:=hZ h
  obtain⟨hB,v,hb,ho⟩:=h;have c0:w.cell? ⟨b,0,none⟩=some (.pointer none):=by rw[Lib.cell_of_heap hb];rfl
  have f0:w.frozen? ⟨b,0,none⟩=false:=Lib.frozen_of_heap hb 0;have hsh:=qLX H.o;have Hb:=hZ hb;have Ho:=hZ ho;clear hb ho
  go_enter Tryd.func101,Tryd.ntmps101
  go_wp2
  rw[Lib.run_to_unsafe w ⟨b,0,none⟩ Tryd.underlying80 Tryd.underlying154 hj (by rw[hjs];decide) hsh (show(0:Nat)<3 by decide)];simp only[Result.andThen];rw[Oper.upon_value]
  go_wp2
  rw[run_callFunc_extern Tryd.func111 (by kernel_rfl) (by kernel_rfl) (by kernel_rfl) (e:=Extern.AbiNoEscape.same) (by kernel_rfl)];rw[Lib.run_noEscape];simp only[Result.andThen];rw[Oper.upon_value]
  go_wp2
  rw[Lib.run_from_unsafe w ⟨b,0,none⟩ Tryd.underlying154 Tryd.underlying80 hj hsh qMn];simp only[Result.andThen];rw[Oper.upon_value]
  go_wp2
  go_end0
  have hb':(w.setCell ⟨b,0,none⟩ (.pointer (some ⟨b,0,none⟩))).heap[b]? =some (.cells #[.pointer (some ⟨b,0,none⟩),v,.bool line] 85 (0,0)):=by
   simp[World.setCell,Array.getElem?_modify,Hb.o]
  have hk:KpX [85] w (w.setCell ⟨b,0,none⟩ (.pointer (some ⟨b,0,none⟩))):=KpX.set Hb.o (by simp) _;refine⟨rfl,⟨hB,v,hb',qBG Ho.o hk (by decide)⟩,(Below.refl B w).setCell (p:=⟨b,0,none⟩) hB _,hk.mono (by simp)⟩
 ·have H:=hZ h
  obtain⟨hB,v,hb,ho⟩:=h;have c0:w.cell? ⟨b,0,none⟩=some (.pointer (some ⟨b,0,none⟩)):=by rw[Lib.cell_of_heap hb];rfl
  clear hb ho
  go_enter Tryd.func101,Tryd.ntmps101
  go_wp2
  rw[Lib.run_neq_ptr_same w _ Tryd.underlying80 hj]
  go_wp2
  go_end0
  exact⟨rfl,H.o,PKp.refl _ _⟩
theorem qLS:(Tryd.prog.info? 5).map (fun i=>(i.zero,i.size,i.bytes))=some (some (.int .u8 0),1,1):=by kernel_rfl
theorem qE1.put{B b:Nat}{w:World}{p v v':Value}{t:Bs}{line:Bool}(hB:B<=b)(hb:w.heap[b]? =some (.cells #[p,v,.bool line] 85 (0,0)))(ho:w.ownsRow B 5 1 v' t.length (Lib.byteCells t)):
 qE1 B (w.setCell ⟨b,1,none⟩ v') b p t line/\KpX [85] w (w.setCell ⟨b,1,none⟩ v'):=by
 have hk:KpX [85] w (w.setCell ⟨b,1,none⟩ v'):=KpX.set hb (by simp) _;exact⟨⟨hB,v',by simp[World.setCell,Array.getElem?_modify,hb],qBG ho hk (by decide)⟩,hk⟩
theorem qF3(B b:Nat)(t:Bs)(line:Bool)(c:UInt8)(w:World)(h:PSt B w b t line)(hlen:t.length<=100000000)(hBw:B<=w.heap.size):
 Calls Tryd.prog 64 #[.pointer (some ⟨b,0,none⟩),.int .u8 c.toNat] w fun e w'=>e=.returned .nilIface/\PSt B w' b (t++[c]) line/\PKp B w w':=by
 obtain⟨i0,hi,hz0,hz1,hz2⟩:=info_parts qLS;have H:=hZ h;clear h
 go_enter Tryd.func64,Tryd.ntmps64
 go_wp2_with fail
 refine(qF0 B b t line w H.o).mono ?_;rintro e w1 ⟨rfl,⟨hB,v,hbk,hown⟩,hk1⟩;have c0:w1.cell? ⟨b,0,none⟩=some (.pointer (some ⟨b,0,none⟩)):=by rw[Lib.cell_of_heap hbk];rfl
 have c1:w1.cell? ⟨b,1,none⟩=some v:=by rw[Lib.cell_of_heap hbk];rfl
 have hlt:=qAo hbk;have Hbk:=hZ hbk;have Hown:=hZ hown;have Hk1:=hZ hk1;have z1:=hk1.1.size;have hc0:(0:Int)<=c.toNat:=by omega
 clear hbk hown hk1
 go_wp2_with (at_builtin;refine wpList_append_own _ rfl _ _ 81 rfl B 5 i0 (.int .u8 0) 1 1 Tryd.underlying81 hi hz0 hz1 hz2 rfl (by decide) _ _ _ rfl (Hown.o.alloc _) ⟨w1.heap.size,0,none⟩ 1 1 [.int .u8 c.toNat] rfl rfl ?c1 ?c2 ?c3 ?c4 ?c5 ?_)
 case c1=>
  intro j u hj
  match j,hj with
  |0,hj=>simp at hj;subst hj;simp[Addr.add]
 case c2=>intro u hu;simp at hu;subst hu;rfl
 case c3=>unfold maxLen;omega
 case c4=>omega
 case c5=>simp;omega
 intro v' w2 hown' hgrow _;have hkg:KpX [5] (w1.alloc (.cells #[.int .u8 c.toNat] 5)) w2:=KpX.grown (Hown.o.alloc _) hgrow (by simp);have hkk:KpX PX w w2:=(Hk1.o.2.trans (KpX.of_below (qAa w1 _))).trans (hkg.mono (by simp));have hbk2:w2.heap[b]? =some (.cells #[.pointer (some ⟨b,0,none⟩),v,.bool line] 85 (0,0)):=hkg _ _ _ (by decide) ((qAa w1 _).block b hlt|>.trans Hbk.o);obtain⟨g2,cap2,hv2,_⟩:=hown'.form (by omega);subst hv2;have d0:w2.cell? ⟨b,0,none⟩=some (.pointer (some ⟨b,0,none⟩)):=by rw[Lib.cell_of_heap hbk2];rfl
 have d1:w2.cell? ⟨b,1,none⟩=some v:=by rw[Lib.cell_of_heap hbk2];rfl
 have f1:w2.frozen? ⟨b,1,none⟩=false:=Lib.frozen_of_heap hbk2 1;have Hown':=hZ hown';have HBl:Hid (Below B w w2):=hZ ((Hk1.o.1.alloc (by omega) _).grown hgrow (by simp;omega) (fun r e=>(Hown.o.lt r e).1));have Hbk2:=hZ hbk2;have Hkk:=hZ hkk;clear hown' hgrow hbk2 hkk hkg
 go_wp2
 go_ret;obtain⟨h1,h2⟩:=qE1.put (t:=t++[c]) hB Hbk2.o (by simpa[Lib.byteCells]using Hown'.o);exact⟨rfl,.inr h1,HBl.o.setCell (p:=⟨b,1,none⟩) hB _,Hkk.o.trans (h2.mono (by simp))⟩
theorem qEv(B b:Nat)(t:Bs)(line:Bool)(s:Bs)(w:World)(h:PSt B w b t line)(hlen:t.length+s.length<=100000000)(hBw:B<=w.heap.size):
 Calls Tryd.prog 97 #[.pointer (some ⟨b,0,none⟩),.string ⟨s.toArray⟩] w fun e w'=>(∃v,e=.returned v)/\PSt B w' b (t++s) line/\PKp B w w':=by
 obtain⟨i0,hi,hz0,hz1,hz2⟩:=info_parts qLS;have H:=hZ h;clear h;have hsz:(⟨s.toArray⟩:ByteArray).size=s.length:=by show s.toArray.size=_;simp
 go_enter Tryd.func97,Tryd.ntmps97
 go_wp2_with fail
 refine(qF0 B b t line w H.o).mono ?_;rintro e w1 ⟨rfl,⟨hB,v,hbk,hown⟩,hk1⟩;have c0:w1.cell? ⟨b,0,none⟩=some (.pointer (some ⟨b,0,none⟩)):=by rw[Lib.cell_of_heap hbk];rfl
 have c1:w1.cell? ⟨b,1,none⟩=some v:=by rw[Lib.cell_of_heap hbk];rfl
 have hlt:=qAo hbk;have Hbk:=hZ hbk;have Hown:=hZ hown;have Hk1:=hZ hk1;have z1:=hk1.1.size;clear hbk hown hk1
 go_wp2_with (at_builtin;refine Lib.wpList_append_own_string _ rfl _ _ 81 9 rfl B 5 i0 Tryd.underlying81 Tryd.underlying9 hi hz0 hz1 hz2 _ _ _ rfl Hown.o ⟨s.toArray⟩ rfl ?c3 ?c4 ?c5 ?_)
 case c3=>unfold maxLen;omega
 case c4=>omega
 case c5=>omega
 intro v' w2 hown' hgrow _;have hkg:KpX [5] w1 w2:=KpX.grown Hown.o hgrow (by simp);have hkk:KpX PX w w2:=Hk1.o.2.trans (hkg.mono (by simp));have hbk2:w2.heap[b]? =some (.cells #[.pointer (some ⟨b,0,none⟩),v,.bool line] 85 (0,0)):=hkg _ _ _ (by decide) Hbk.o;have d0:w2.cell? ⟨b,0,none⟩=some (.pointer (some ⟨b,0,none⟩)):=by rw[Lib.cell_of_heap hbk2];rfl
 have d1:w2.cell? ⟨b,1,none⟩=some v:=by rw[Lib.cell_of_heap hbk2];rfl
 have f1:w2.frozen? ⟨b,1,none⟩=false:=Lib.frozen_of_heap hbk2 1;obtain⟨ao,n',cap,rfl⟩:∃ao n' cap,v'=.slice ao n' cap:=by
  rcases hown'.2 with ⟨hv,_⟩|⟨g,cap,cur,hv,_⟩
  ·exact⟨_,_,_,hv⟩
  ·exact⟨_,_,_,hv⟩
 have Hown':=hZ hown';have HBl:Hid (Below B w w2):=hZ (Hk1.o.1.grown hgrow (by omega) (fun r e=>(Hown.o.lt r e).1));have Hbk2:=hZ hbk2;have Hkk:=hZ hkk;clear hown' hgrow hbk2 hkk hkg
 go_wp2
 go_ret2
 have e1:Lib.byteCells (t++s)=Lib.byteCells t++Lib.strCells ⟨s.toArray⟩:=by simp[Lib.byteCells,Lib.strCells]
 have e2:(t++s).length=t.length+(⟨s.toArray⟩:ByteArray).size:=by rw[hsz];simp
 obtain⟨h1,h2⟩:=qE1.put (t:=t++s) hB Hbk2.o (by rw[e1,e2];exact Hown'.o);exact⟨⟨_,rfl⟩,.inr h1,HBl.o.setCell (p:=⟨b,1,none⟩) hB _,Hkk.o.trans (h2.mono (by simp))⟩
theorem qKf(B b:Nat)(t:Bs)(line:Bool)(w:World)(h:PSt B w b t line):
 Calls Tryd.prog 31 #[.pointer (some ⟨b,0,none⟩)] w fun e w'=>e=.returned (.int .i64 t.length)/\w'=w:=by
 obtain⟨p,hB,v,hbk,hown⟩:∃p,qE1 B w b p t line:=by
  rcases h with h|h
  ·exact⟨_,h⟩
  ·exact⟨_,h⟩
 obtain⟨ao,cap,rfl⟩:∃ao cap,v=.slice ao t.length cap:=by
  rcases hown.2 with ⟨hv,h0⟩|⟨g,cap,cur,hv,_⟩
  ·exact⟨none,0,by rw[hv,h0]⟩
  ·exact⟨_,_,hv⟩
 have c1:w.cell? ⟨b,1,none⟩=some (.slice ao t.length cap):=by rw[Lib.cell_of_heap hbk];rfl
 clear hbk hown h
 go_enter Tryd.func31,Tryd.ntmps31
 go_wp2
 go_ret;exact⟨rfl,rfl⟩
theorem qLA:Tryd.prog.cellsOf 5=1:=by kernel_rfl
theorem qIT(B b:Nat)(t:Bs)(line:Bool)(w:World)(h:PSt B w b t line)(h0:t≠[]):
 Calls Tryd.prog 32 #[.pointer (some ⟨b,0,none⟩)] w fun e w'=>e=.returned (.string ⟨t.toArray⟩)/\Below B w w':=by
 obtain⟨p,hB,v,hbk,hown⟩:∃p,qE1 B w b p t line:=by
  rcases h with h|h
  ·exact⟨_,h⟩
  ·exact⟨_,h⟩
 have hl0:t.length≠0:=by simpa using h0
 obtain⟨g,cap,cur,rfl,hbg,hg,hnc,hcm,hcs,htake⟩:∃g cap cur,v=.slice (some ⟨g,0,none⟩) t.length cap/\B<=g/\w.heap[g]? =some (.cells cur 5 (0,0))/\t.length<=cap/\cap<=maxLen/\cur.size=cap*1/\cur.toList.take (t.length*1)=Lib.byteCells t:=by
  rcases hown.2 with ⟨_,hz⟩|⟨g,cap,cur,hv,r⟩
  ·exact absurd hz hl0
  ·exact⟨g,cap,cur,hv,r⟩
 have c1:w.drew.cell? ⟨b,1,none⟩=some (.slice (some ⟨g,0,none⟩) t.length cap):=by
  have:w.drew.heap[b]? =some (.cells #[p,.slice (some ⟨g,0,none⟩) t.length cap,.bool line] 85 (0,0)):=hbk;rw[Lib.cell_of_heap this];rfl
 have hSD:(Builtin.unsafeSliceData_ #[81] 121 #[.slice (some ⟨g,0,none⟩) t.length cap]).run Tryd.prog w.drew=.ok (.pointer (some ⟨g,0,none⟩)) w.drew:=
  Lib.run_unsafeSliceData_row _ _ _ _ _ _ (by omega)
 have hUS:(Builtin.unsafeString_ #[121,3] 9 #[.pointer (some ⟨g,0,none⟩),.int .i64 t.length]).run Tryd.prog w.drew=.ok (.string ⟨t.toArray⟩) (w.drew.freeze ⟨g,0,none⟩ t.length):=by
  refine Lib.run_unsafeString_row w.drew 121 3 9 5 Tryd.underlying121 qLA g cur.size (by have hg':w.drew.heap[g]? =some (.cells cur 5 (0,0)):=hg;simp[World.shape?,hg']) t h0 (by omega) (by unfold maxLen at hcm;omega) ?_;intro j x hx;have:=hown.cells (g:=g) rfl j (.int .u8 x.toNat) (by simp[Lib.byteCells,hx]);exact this
 clear hbk hown h htake hg
 go_enter Tryd.func32,Tryd.ntmps32
 go_wp2
 go_region
 all_goals (go_wp2;go_ret;exact⟨rfl,Lib.below_freeze (Below.drew (Below.refl B w)) (p:=⟨g,0,none⟩) hbg _⟩)
theorem PSt.line{B b:Nat}{w:World}{t:Bs}{line:Bool}(h:PSt B w b t line)(l':Bool):PSt B (w.setCell ⟨b,2,none⟩ (.bool l')) b t l'/\PKp B w (w.setCell ⟨b,2,none⟩ (.bool l')):=by
 have key:∀p,qE1 B w b p t line->qE1 B (w.setCell ⟨b,2,none⟩ (.bool l')) b p t l'/\PKp B w (w.setCell ⟨b,2,none⟩ (.bool l')):=by
  rintro p ⟨hB,v,hb,ho⟩;have hk:KpX [85] w (w.setCell ⟨b,2,none⟩ (.bool l')):=KpX.set hb (by simp) _;exact⟨⟨hB,v,by simp[World.setCell,Array.getElem?_modify,hb],qBG ho hk (by decide)⟩,(Below.refl B w).setCell (p:=⟨b,2,none⟩) hB _,hk.mono (by simp)⟩
 rcases h with h|h
 ·exact⟨.inl (key _ h).1,(key _ h).2⟩
 ·exact⟨.inr (key _ h).1,(key _ h).2⟩
def qKR(b:UInt8):Prop:=cl b=0\/cl b=5
theorem qHD{b:UInt8}(h:qKR b):wb b=false:=by
 unfold wb;rcases h with h|h<;>simp[h]
theorem qHE{b:UInt8}(h:qKR b):db b=false:=by
 unfold db;rcases h with h|h<;>simp[h]
inductive qBU:Int->Bs->Int->Prop
 |word (c:UInt8) (r:Bs) (hc:cl c=1) (hr:∀x∈r,wb x=true) (hl:r.length<=15):qBU 0 (c::r) 0
 |num (c:UInt8) (r:Bs) (n:Nat) (hc:cl c=2) (hr:∀x∈r,db x=true) (hv:dv 0 (c::r)=n) (hn:n<=1099511627776):qBU 1 (c::r) n
 |sym (c:UInt8) (hc:cl c=4):qBU 2 [c] 0
def qIu(k:Int)(r:Bs):Prop:=∀c r',r=c::r'->(k=0->wb c=false)/\(k=1->db c=false)
theorem qBL(f:UInt8->Bool):∀(l r:Bs),(∀x∈l,f x=true)->(∀c r',r=c::r'->f c=false)->(l++r).takeWhile f=l
 |[],[],_,_=>rfl
 |[],c::r,_,h=>by
  have:=h c r rfl;simp[this]
 |c::l,r,h,h'=>by
  rw[List.cons_append,List.takeWhile_cons,if_pos (h c (by simp)),qBL f l r (fun x hx=>h x (by simp[hx])) h']
theorem qBU.cons{k n:Int}{x:Bs}(h:qBU k x n):∃c r,x=c::r/\cl c≠0/\cl c≠5/\cl c≠6:=by
 cases h with
 |word c r hc=>exact⟨c,r,rfl,by omega,by omega,by omega⟩
 |num c r n hc=>exact⟨c,r,rfl,by omega,by omega,by omega⟩
 |sym c hc=>exact⟨c,[],rfl,by omega,by omega,by omega⟩
theorem qBU.tl{k n:Int}{x:Bs}(h:qBU k x n)(r:Bs)(hs:qIu k r):tl (x++r)=x.length:=by
 cases h with
 |word c y hc hr hl=>
  rw[List.cons_append,Go.Proofs.YtpmnbcdjoomgcaaDoor.tl,if_pos hc,qBL wb y r hr (fun c r' e=>(hs c r' e).1 rfl),List.length_cons];omega
 |num c y n hc hr hv hn=>
  rw[List.cons_append,Go.Proofs.YtpmnbcdjoomgcaaDoor.tl,if_neg (by omega),if_pos hc,qBL db y r hr (fun c r' e=>(hs c r' e).2 rfl),List.length_cons];omega
 |sym c hc=>
  rw[List.cons_append,Go.Proofs.YtpmnbcdjoomgcaaDoor.tl,if_neg (by omega),if_neg (by omega),if_pos hc];rfl
theorem qBU.nx{k n:Int}{x:Bs}(h:qBU k x n)(r:Bs)(hs:qIu k r)(a:Nat):nx a (x++r)=.ok ⟨k,x,n,a⟩:=by
 have ht:=h.tl r hs;have hx:(x++r).take x.length=x:=by simp
 cases h with
 |word c y hc hr hl=>
  rw[List.cons_append]at ht hx ⊢;unfold Go.Proofs.YtpmnbcdjoomgcaaDoor.nx;simp only[ht,hx];rw[if_neg (by simp),if_pos hc,if_neg (by simp;omega)]
 |num c y n hc hr hv hn=>
  rw[List.cons_append]at ht hx ⊢;unfold Go.Proofs.YtpmnbcdjoomgcaaDoor.nx;simp only[ht,hx];rw[if_neg (by simp),if_neg (by omega),if_pos hc,hv,if_neg (by omega)]
 |sym c hc=>
  rw[List.cons_append]at ht hx ⊢;unfold Go.Proofs.YtpmnbcdjoomgcaaDoor.nx;simp only[ht,hx];rw[if_neg (by simp),if_neg (by omega),if_neg (by omega)]
def qIs(ts:List Tok)(y:Except (Nat×Int) (List Tok)):Except (Nat×Int) (List Tok):=
 match y with
 |.error e=> .error e
 |.ok us=> .ok (ts++us)
theorem qHf(y:Except (Nat×Int) (List Tok)):qIs [] y=y:=by cases y<;>rfl
theorem qFu(a b:List Tok)(y:Except (Nat×Int) (List Tok)):qIs a (qIs b y)=qIs (a++b) y:=by cases y<;>simp[qIs]
theorem qKY(N:Nat){k n:Int}{x:Bs}(h:qBU k x n)(r:Bs)(hs:qIu k r):lx N (x++r)=qIs [⟨k,x,n,N-(x++r).length⟩] (lx N r):=by
 obtain⟨c,y,rfl,h0,h5,h6⟩:=h.cons;have ht:=h.tl r hs;have hn:=h.nx r hs (N-(c::y++r).length);rw[qCy];rw[List.cons_append]at ht hn ⊢;rw[qID c _ h0 h5];simp only[hn,ht];have hd:(c::(y++r)).drop (c::y).length=r:=by simp
 rw[hd];cases lx N r<;>rfl
structure Pc where
 sep:Bs
 k:Int
 x:Bs
 n:Int
def qAl:List Pc->Bs
 |[]=>[]
 |p::l=>p.sep++(p.x++qAl l)
theorem qAD:∀a b:List Pc,qAl (a++b)=qAl a++qAl b
 |[],b=>rfl
 |p::a,b=>by simp[qAl,qAD a b]
structure qJP(s:Bs):Prop where
 skip:∀r,sk false (s++r)=sk false r
 head:∃c s',s=c::s'/\qKR c
structure OkP(p:Pc):Prop where
 tok:qBU p.k p.x p.n
 sep:qJP p.sep\/(p.sep=[]/\p.k=2)
theorem qJP.blank:qJP [32]:=⟨fun r=>qBW 32 r (by decide),32,[],rfl,.inl (by decide)⟩
theorem qBU.sym4{k n:Int}{x:Bs}(h:qBU k x n)(hk:k=2):∃c,x=[c]/\cl c=4:=by
 cases h with
 |word=>cases hk
 |num=>cases hk
 |sym c hc=>exact⟨c,rfl,hc⟩
theorem qIA{k:Int}{f:Bs}(hf:qIu k f):∀l:List Pc,(∀p∈l,OkP p)->qIu k (qAl l++f)
 |[],_=>hf
 |p::l,h=>by
  have hp:=h p (by simp);intro c r' e;rcases hp.sep with hs|⟨hs,hk⟩
  ·obtain⟨d,s',hd,he⟩:=hs.head
   rw[qAl,hd]at e;simp only[List.cons_append]at e;injection e with e1 e2;subst e1;exact⟨fun _=>qHD he,fun _=>qHE he⟩
  ·obtain⟨d,hd,h4⟩:=hp.tok.sym4 hk
   rw[qAl,hs,hd]at e;simp only[List.nil_append,List.cons_append]at e;injection e with e1 e2;subst e1;exact⟨fun _=>by simp[wb,h4],fun _=>by simp[db,h4]⟩
abbrev K:=Int×Bs×Int
def Tok.key(t:Tok):K:=(t.kind,t.text,t.n)
def Pc.key(p:Pc):K:=(p.k,p.x,p.n)
theorem qEI(N:Nat)(f:Bs)(hf:∀k,qIu k f):∀l:List Pc,(∀p∈l,OkP p)->∃ts,lx N (qAl l++f)=qIs ts (lx N f)/\ts.map Tok.key=l.map Pc.key
 |[],_=>⟨[],by rw[qHf];rfl,rfl⟩
 |p::l,h=>by
  obtain⟨ts,h1,h2⟩:=qEI N f hf l (fun q hq=>h q (by simp[hq]));have hp:=h p (by simp);have hst:=qIA (hf p.k) l (fun q hq=>h q (by simp[hq]));have ht:=qKY N hp.tok (qAl l++f) hst;refine⟨⟨p.k,p.x,p.n,N-(p.x++(qAl l++f)).length⟩::ts,?_,by simp only[List.map_cons];rw[h2];rfl⟩;rw[qAl];have hsk:lx N (p.sep++(p.x++qAl l)++f)=lx N (p.x++(qAl l++f)):=by
   rw[List.append_assoc,List.append_assoc];rcases hp.sep with hs|⟨hs,-⟩
   ·rw[<-qDJ,hs.skip,qDJ]
   ·rw[hs];rfl
  rw[hsk,ht,h1,qFu];rfl
theorem qIh(N:Nat)(f:Bs)(hf:∀k,qIu k f)(p:Pc)(l:List Pc)(hp:qBU p.k p.x p.n)(hs:p.sep=[])(h:∀q∈l,OkP q):∃ts,lx N (qAl (p::l)++f)=qIs ts (lx N f)/\ts.map Tok.key=(p::l).map Pc.key:=by
 obtain⟨ts,h1,h2⟩:=qEI N f hf l h;have hst:=qIA (hf p.k) l h;have ht:=qKY N hp (qAl l++f) hst;refine⟨⟨p.k,p.x,p.n,N-(p.x++(qAl l++f)).length⟩::ts,?_,by simp only[List.map_cons];rw[h2];rfl⟩;rw[qAl,hs,List.nil_append,List.append_assoc,ht,h1,qFu];rfl
theorem qHR{c:UInt8}(hc:qKR c)(r:Bs)(k:Int):qIu k (c::r):=by
 intro d r' e;injection e with e1 e2;subst e1;exact⟨fun _=>qHD hc,fun _=>qHE hc⟩
theorem qJ4(k:Int):qIu k []:=by intro c r' e;cases e
theorem qCZ(f:UInt8->Bool):∀l:Bs,(l.takeWhile f).length=l.length->∀x∈l,f x=true
 |[],_=>by simp
 |c::l,h=>by
  rw[List.takeWhile_cons]at h;by_cases hc:f c=true
  ·rw[if_pos hc]at h
   intro x hx;rcases List.mem_cons.1 hx with rfl|hx
   ·exact hc
   ·exact qCZ f l (by simpa using h) x hx
  ·rw[if_neg hc]at h
   simp at h
theorem qFh{s:Bs}(h:qBA s=true):qBU 0 s 0:=by
 unfold qBA at h;by_cases hl:8192<s.length
 ·rw[if_pos hl]at h;simp at h
 rw[if_neg hl,qCy]at h;have hk:=qC0 false s;have hsd:=qIF false s;cases hs:sk false s with
 |nil=>rw[hs]at h;simp at h
 |cons c r=>
  rw[hs]at h hk hsd;simp only[]at h;cases hn:nx (s.length-(c::r).length) (c::r)with
  |error e=>rw[hn]at h;simp at h
  |ok t=>
   rw[hn]at h;simp only[]at h;have ⟨h0,htx,_⟩:=qEG hn;have htl:=qHO (c::r);have key:t.kind=0/\t.text=s:=by
    cases hy:lx s.length ((c::r).drop (tl (c::r)))with
    |error e=>rw[hy]at h;simp at h
    |ok us=>
     rw[hy]at h;cases us with
     |nil=>simpa using h
     |cons u us=>simp at h
   obtain⟨k1,k2⟩:=key;have hlen:tl (c::r)=s.length:=by
    have:=congrArg List.length (htx.symm.trans k2);rw[List.length_take]at this;omega
   have hlr:(c::r).length=s.length:=by omega
   have hse:s=c::r:=by
    rw[hlr,Nat.sub_self,List.drop_zero]at hsd;exact hsd
   have h1:cl c=1:=by
    rcases Decidable.em (cl c=1)with h1|h1
    ·exact h1
    ·exfalso
     unfold nx at hn;simp only[]at hn;rw[if_neg (by omega),if_neg h1]at hn
     split at hn
     ·split at hn
      ·cases hn
      ·cases hn;simp at k1
     ·cases hn;simp at k1
   have h16:r.length<=15:=by
    unfold nx at hn;simp only[]at hn;rw[if_neg (by omega),if_pos h1]at hn
    split at hn
    ·cases hn
    ·next h16=>rw[hlen,<-hlr,List.length_cons]at h16;omega
   subst hse;rw[tl,if_pos h1,List.length_cons]at hlen;exact .word c r h1 (qCZ wb r (by omega)) h16
theorem qLv:∀n:Nat,dv 0 (qG3 n)=n:=by
 intro n
 induction n using Nat.strongRecOn with
 |_ n ih=>
  by_cases h:n=0
  ·subst h;rfl
  ·have hlt:=Nat.div_lt_self (n:=n) (k:=10) (by omega) (by omega)
   have hd:=(qJE (n%10) (Nat.mod_lt _ (by omega))).2.1;rw[<-qLx]at hd;rw[qCQ n h,qJz,ih _ hlt,hd];omega
theorem qLV(n:Nat):dv 0 (dec n)=n:=by
 unfold dec;by_cases h:n=0
 ·rw[if_pos h,qDP,qLx];subst h;rfl
 ·rw[if_neg h];exact qLv n
theorem qJn(n:Nat)(h:n<=1099511627776):qBU 1 (dec n) n:=by
 obtain⟨h1,h2,c,l,h3,-⟩:=qJD n;have h5:=qLV n;rw[h3]at h1 h5 ⊢;have hd:∀x:UInt8,qG9 x->cl x=2:=fun x hx=>((qDc x).2.2.2).2 hx;refine .num c l n (hd c (h1 c (by simp))) (fun x hx=> ?_) h5 h;simp[db,hd x (h1 x (by simp[hx]))]
def qBa(ps:List Pc)(r l:List Tok):Prop:=∃ts,l=ts++r/\ts.map Tok.key=ps.map Pc.key
theorem qBa.nil{r l:List Tok}(h:qBa [] r l):l=r:=by
 obtain⟨ts,h1,h2⟩:=h;have:ts=[]:=by simpa using h2
 rw[h1,this];rfl
theorem qBa.cons{p:Pc}{ps:List Pc}{r l:List Tok}(h:qBa (p::ps) r l):∃t l',l=t::l'/\t.key=p.key/\qBa ps r l':=by
 obtain⟨ts,h1,h2⟩:=h;cases ts with
 |nil=>simp at h2
 |cons t ts=>
  simp only[List.map_cons,List.cons.injEq]at h2;exact⟨t,ts++r,by rw[h1];rfl,h2.1,ts,rfl,h2.2⟩
theorem qBa.app:∀{a b:List Pc} {r l:List Tok},qBa (a++b) r l->∃m,qBa a m l/\qBa b r m
 |[],b,r,l,h=>⟨l,⟨[],rfl,rfl⟩,h⟩
 |p::a,b,r,l,h=>by
  obtain⟨t,l',rfl,hk,h'⟩:=qBa.cons h;obtain⟨m,⟨ts,h1,h2⟩,h3⟩:=qBa.app h';exact⟨m,⟨t::ts,by rw[h1];rfl,by simp only[List.map_cons,hk,h2]⟩,h3⟩
theorem Tok.is_key{t:Tok}{k n:Int}{x:Bs}(h:t.key=(k,x,n))(k':Int)(s:Bs):t.is k' s=(k==k' && (s.isEmpty||x==s)):=by
 unfold Tok.key at h;simp only[Prod.mk.injEq]at h;obtain⟨h1,h2,-⟩:=h;unfold Tok.is;rw[h1,h2]
theorem Tok.key_n{t:Tok}{k n:Int}{x:Bs}(h:t.key=(k,x,n)):t.kind=k/\t.text=x/\t.n=n:=by
 unfold Tok.key at h;simpa using h
def pcW(w:Bs):Pc:=⟨[32],0,w,0⟩
def pcN(n:Int):Pc:=⟨[32],1,qAq n,n⟩
def pcC(c:UInt8):Pc:=⟨[],2,[c],0⟩
def pcP:Pc:=⟨[32],2,[43],0⟩
def pcL:Bool->List Pr->List Pc
 |_,[]=>[]
 |later,p::l=>(if later then [pcC 44]else [])++(pcN p.n::pcW p.name::pcL true l)
def qD6(w:Bs)(n:Int):List Pc:=if n=0 then []else [pcW w,pcN n]
def qCn(w:Bs)(l:List Pr):List Pc:=if l.isEmpty then []else pcW w::pcL false l
def qIt(w:Bs)(b:Bool):List Pc:=if b then [pcW w]else []
def qC2(n:Int):List Pc:=if n=1 then [pcW qFm,pcW qIx]else if n=2 then [pcW qFm,pcW qHM]else []
def qBv(n m:Int):List Pc:=if n=0/\m=0 then []else [pcW qAP,pcN n,pcW wOf,pcN m]
def qBz:Bool->List (List Pr)->List Pc
 |_,[]=>[]
 |later,r::l=>(if later then [pcP]else [])++(pcN (qEZ r)::pcC 58::pcL false r.tail)++qBz true l
def qC6:Bool->List (Int×Int)->List Pc
 |_,[]=>[]
 |later,b::l=>(if later then [pcC 44]else [])++[pcN b.1,pcC 58,pcN b.2]++qC6 true l
def qFy(d:Dc):Fg->List Pc
 |.object=>qIt qA0 d.object
 |.mixed=>qIt qBl d.mixed
 |.coin=>qIt qCq d.coin
 |.wear=>qD6 qDA d.wear
 |.bind=>qC2 d.bind
 |.level=>qD6 qAU d.level
 |.time=>qD6 qDf d.time
 |.chance=>qBv d.chance d.of_
 |.take=>qCn qDg d.take
 |.give=>qCn qDh d.give
 |.back=>qCn qDi d.back
theorem qFr:∀(l:List Pr) (b:Bool),qAl (pcL b l)=prL b l
 |[],b=>by cases b<;>rfl
 |p::l,b=>by
  rw[pcL,prL,qAD];have:=qFr l true;cases b<;>simp[qAl,pcN,pcW,pcC,this]
theorem qEu:∀(l:List (List Pr)) (b:Bool),qAl (qBz b l)=qAp b l
 |[],b=>by cases b<;>rfl
 |r::l,b=>by
  rw[qBz,qAp,qAD,qAD,qEu l true];have:=qFr r.tail false;cases b<;>simp[qAl,pcN,pcW,pcC,pcP,this]
theorem qE5:∀(l:List (Int×Int)) (b:Bool),qAl (qC6 b l)=qBg b l
 |[],b=>by cases b<;>rfl
 |r::l,b=>by
  rw[qC6,qBg,qAD,qAD,qE5 l true];cases b<;>simp[qAl,pcN,pcC]
theorem qGJ(w:Bs)(l:List Pr):qAl (qCn w l)=qAw w l:=by
 unfold qCn qAw
 split
 ·rfl
 ·simp[qAl,pcW,qFr]
theorem qE4(w:Bs)(n:Int):qAl (qD6 w n)=qAC w n:=by
 unfold qD6 qAC
 split
 ·rfl
 ·simp[qAl,pcW,pcN]
theorem qIQ(w:Bs)(b:Bool):qAl (qIt w b)=qCf w b:=by cases b<;>simp[qIt,qCf,qAl,pcW]
theorem qGK(n:Int):qAl (qC2 n)=qBh n:=by
 unfold qC2 qBh
 split
 ·rfl
 ·split<;>rfl
theorem qFs(n m:Int):qAl (qBv n m)=qAn n m:=by
 unfold qBv qAn
 split
 ·rfl
 ·simp[qAl,pcW,pcN]
def qCb(k:Int):List Fg:=if k=0 then qCp else qBX
def qIP{α:Type}(l:List α)(k:Nat):List α:=l.drop k++l.take k
theorem qF4(d:Dc)(k:Nat)(hk:d.kind<=2):qHY (qAf d) k=qAl ((qIP (qCb d.kind) k).flatMap (qFy d)):=by
 have h1:∀l:List Fg,qAl (l.flatMap (qFy d))=(l.map (fun x=>qAl (qFy d x))).flatten:=by
  intro l
  induction l with
  |nil=>rfl
  |cons x l ih=>rw[List.flatMap_cons,qAD,List.map_cons,List.flatten_cons,ih]
 have h2:qAf d=(qCb d.kind).map (fun x=>qAl (qFy d x)):=by
  unfold qAf qCb;by_cases h0:d.kind=0
  ·rw[if_pos h0,if_pos h0]
   simp[qCp,qFy,qIQ,qE4,qGK]
  ·rw[if_neg h0,if_neg h0,if_pos hk]
   simp[qBX,qFy,qGJ,qE4,qFs]
 rw[h1,h2];unfold qHY qIP;rw[List.map_append,List.map_drop,List.map_take]
def Pr.st(p:Pr):Pr:={ p with at_:=0 }
def stL(l:List Pr):List Pr:=l.map Pr.st
def Dc.st(d:Dc):Dc:={ d with at_:=0,take:=stL d.take,give:=stL d.give,back:=stL d.back,rows:=d.rows.map stL }
theorem qB9:∀(l:List Pr) (r toks:List Tok),l≠[]->qBa (pcL false l) r toks->isT 2 [44] r=false->∃l',qAH toks=.ok (l',r)/\stL l'=stL l
 |[],_,_,h,_,_=>absurd rfl h
 |p::l,r,toks,_,h,hr=>by
  rw[pcL]at h;obtain⟨a,l1,rfl,ha,h⟩:=qBa.cons h;obtain⟨b,l2,rfl,hb,h⟩:=qBa.cons h;have a1:=Tok.key_n ha;have b1:=Tok.key_n hb;have qa:a.is 1 []=true:=by rw[Tok.is_key ha];rfl
  have qb:b.is 0 []=true:=by rw[Tok.is_key hb];rfl
  rw[qAH.eq_def];simp only[if_pos qa,if_pos qb];cases l with
  |nil=>
   have:=qBa.nil h;subst this;refine⟨[⟨a.n,b.text,b.at_⟩],?_,by simp[stL,Pr.st,a1,b1,pcN,pcW]⟩;cases l2 with
   |nil=>rfl
   |cons c r'=>
    have:c.is 2 [44]=false:=hr;simp only[this];rfl
  |cons q l=>
   rw[pcL]at h;obtain⟨c,l3,rfl,hc,h⟩:=qBa.cons h;have qc:c.is 2 [44]=true:=by rw[Tok.is_key hc];rfl
   have h':qBa (pcL false (q::l)) r l3:=by rw[pcL];exact h
   obtain⟨l',e1,e2⟩:=qB9 (q::l) r l3 (by simp) h' hr;simp only[if_pos qc,e1];refine⟨_,rfl,?_⟩;simp only[stL,List.map_cons]at e2 ⊢;rw[e2,a1.2.2,b1.2.1];rfl
theorem qGa:∀(l:List (Int×Int)) (r toks:List Tok),l≠[]->qBa (qC6 false l) r toks->isT 2 [44] r=false->qD9 toks=.ok (l,r)
 |[],_,_,h,_,_=>absurd rfl h
 |p::l,r,toks,_,h,hr=>by
  rw[qC6]at h;obtain⟨a,l1,rfl,ha,h⟩:=qBa.cons h;obtain⟨b,l2,rfl,hb,h⟩:=qBa.cons h;obtain⟨c,l3,rfl,hc,h⟩:=qBa.cons h;have a1:=Tok.key_n ha;have c1:=Tok.key_n hc;have qa:a.is 1 []=true:=by rw[Tok.is_key ha];rfl
  have qb:b.is 2 [58]=true:=by rw[Tok.is_key hb];rfl
  have qc:c.is 1 []=true:=by rw[Tok.is_key hc];rfl
  rw[qD9.eq_def];simp only[if_pos qa,if_pos qb,if_pos qc];cases l with
  |nil=>
   have:=qBa.nil h;subst this;cases l3 with
   |nil=>simp[a1,c1,pcN]
   |cons d r'=>
    have:d.is 2 [44]=false:=hr;simp[this,a1,c1,pcN]
  |cons q l=>
   rw[qC6]at h;obtain⟨d,l4,rfl,hd,h⟩:=qBa.cons h;have qd:d.is 2 [44]=true:=by rw[Tok.is_key hd];rfl
   have h':qBa (qC6 false (q::l)) r l4:=by rw[qC6];exact h
   have e1:=qGa (q::l) r l4 (by simp) h' hr;simp only[if_pos qd,e1,a1.2.2,c1.2.2];rfl
theorem qDt{p:Pc}{ps:List Pc}{r l:List Tok}(h:qBa (p::ps) r l)(k:Int)(s:Bs):isT k s l=(p.k==k && (s.isEmpty||p.x==s)):=by
 obtain⟨t,l',rfl,hk,-⟩:=qBa.cons h;exact Tok.is_key hk k s
theorem qF7(row:List Pr)(r toks:List Tok)(h:qBa (pcN (qEZ row)::pcC 58::pcL false row.tail) r toks)(h0:rowOk row=true)(h1:isT 2 [44] r=false)(h2:isT 1 [] r=false):∃l',qDY toks=.ok (l',r)/\stL l'=stL row:=by
 obtain⟨a,l1,rfl,ha,h⟩:=qBa.cons h;obtain⟨b,l2,rfl,hb,h⟩:=qBa.cons h;have a1:=Tok.key_n ha;have qa:a.is 1 []=true:=by rw[Tok.is_key ha];rfl
 have qb:b.is 2 [58]=true:=by rw[Tok.is_key hb];rfl
 cases row with
 |nil=>cases h0
 |cons p row=>
  have hp:p.name=[]:=by simpa[rowOk]using h0
  have e0:stL [⟨a.n,[],a.at_⟩]=[p.st]:=by
   simp only[stL,List.map_cons,List.map_nil,Pr.st];rw[a1.2.2,hp];rfl
  unfold qDY;simp only[qAS,if_pos qa,if_pos qb];cases row with
  |nil=>
   have:=qBa.nil h;subst this;rw[if_neg (by rw[h2];decide)];exact⟨_,rfl,e0⟩
  |cons q row=>
   have hi:isT 1 [] l2=true:=by
    rw[show(p::q::row).tail=q::row from rfl,pcL]at h;rw[qDt h];rfl
   obtain⟨l',e1,e2⟩:=qB9 (q::row) r l2 (by simp) h h1;rw[if_pos hi,e1];refine⟨_,rfl,?_⟩
   show Pr.st _::stL l'=p.st::stL (q::row)
   rw[e2];have:=List.cons.inj e0;rw[<-this.1]
theorem qE9:∀(l:List (List Pr)) (f:Nat) (r toks:List Tok),l≠[]->l.length<=f->qBa (qBz false l) r toks->(∀x∈l,rowOk x=true)->isT 2 [44] r=false->isT 1 [] r=false->isT 2 [43] r=false->
 ∃l',qBr f toks=.ok (l',r)/\l'.map stL=l.map stL
 |[],_,_,_,h,_,_,_,_,_,_=>absurd rfl h
 |p::l,0,_,_,_,h,_,_,_,_,_=>by simp at h
 |p::l,f+1,r,toks,_,hf,h,hok,h1,h2,h3=>by
  rw[qBz]at h;obtain⟨m,ha,hb⟩:=qBa.app h;rw[qBr];cases l with
  |nil=>
   have:=qBa.nil hb;subst this;obtain⟨x,e1,e2⟩:=qF7 p m toks ha (hok p (by simp)) h1 h2;rw[e1];simp only[h3];exact⟨[x],rfl,by simp[e2]⟩
  |cons q l=>
   rw[qBz]at hb;have m1:isT 2 [44] m=false:=by rw[qDt hb];rfl
   have m2:isT 1 [] m=false:=by rw[qDt hb];rfl
   have m3:isT 2 [43] m=true:=by rw[qDt hb];rfl
   obtain⟨x,e1,e2⟩:=qF7 p m toks ha (hok p (by simp)) m1 m2;obtain⟨t,m',rfl,ht,hb⟩:=qBa.cons hb;have hb':qBa (qBz false (q::l)) r m':=by rw[qBz];exact hb
   obtain⟨l',e3,e4⟩:=qE9 (q::l) f r m' (by simp) (by simpa using hf) hb' (fun x hx=>hok x (by simp[hx])) h1 h2 h3;rw[e1];simp only[m3,if_true];rw[show(t::m').drop 1=m' from rfl,e3];refine⟨_,rfl,?_⟩;simp only[List.map_cons]at e4 ⊢;rw[e2,e4]
def qBD(d:Dc)(S:Fg->Bool):Dc:=
 { kind:=d.kind,name:=d.name,at_:=0,object:=S .object && d.object,mixed:=S .mixed && d.mixed,coin:=S .coin && d.coin,wear:=if S .wear then d.wear else 0,bind:=if S .bind then d.bind else 0,level:=if S .level then d.level else 0,time:=if S .time then d.time else 0,chance:=if S .chance then d.chance else 0,of_:=if S .chance then d.of_ else 0,take:=if S .take then stL d.take else [],give:=if S .give then stL d.give else [],back:=if S .back then stL d.back else [],rows:=[],brs:=[] }
def qCc(S:Fg->Bool)(x:Fg):Fg->Bool:=fun y=>decide (y=x)||S y
theorem qF1(d:Dc)(x:Fg):qFy d x=[]\/ ∃ps,qFy d x=pcW x.word::ps:=by
 cases x<;>simp only[qFy,qIt,qD6,qC2,qBv,qCn,Fg.word]<;>(split<;>(try split)<;>first|exact .inl rfl|exact .inr ⟨_,rfl⟩)
theorem qH0{d:Dc}{x:Fg}(h:qFy d x=[])(hb:0<=d.bind/\d.bind<=2)(S:Fg->Bool):qBD d (qCc S x)=qBD d S:=by
 cases x<;>simp only[qFy,qIt,qD6,qC2,qBv,qCn]at h<;>simp only[qBD,qCc]
 ·cases ho:d.object<;>simp_all
 ·cases ho:d.mixed<;>simp_all
 ·cases ho:d.coin<;>simp_all
 ·have:d.wear=0:=by by_cases e:d.wear=0;exact e;simp[e]at h
  simp[this]
 ·have:d.bind=0:=by
   by_cases e:d.bind=1
   ·simp[e]at h
   ·by_cases e2:d.bind=2
    ·simp[e2]at h
    ·omega
  simp[this]
 ·have:d.level=0:=by by_cases e:d.level=0;exact e;simp[e]at h
  simp[this]
 ·have:d.time=0:=by by_cases e:d.time=0;exact e;simp[e]at h
  simp[this]
 ·have:d.chance=0/\d.of_=0:=by by_cases e:d.chance=0/\d.of_=0;exact e;simp[e]at h
  simp[this]
 ·have:d.take=[]:=by by_cases e:d.take=[];exact e;simp[e]at h
  simp[this,stL]
 ·have:d.give=[]:=by by_cases e:d.give=[];exact e;simp[e]at h
  simp[this,stL]
 ·have:d.back=[]:=by by_cases e:d.back=[];exact e;simp[e]at h
  simp[this,stL]
theorem qKj{d d0:Dc}{x:Fg}{ps:List Pc}{S:Fg->Bool}{r toks:List Tok}(hx:qFy d x=pcW x.word::ps)(h:qBa ps r toks)(h0:d0.st=qBD d S)(hr:isT 2 [44] r=false):
 ∃d1,pFg x d0 toks=.ok (d1,r)/\d1.st=qBD d (qCc S x):=by
 have num:∀{n:Int} {l:List Tok} {m:List Tok},qBa [pcN n] m l->qBm l=.ok (n,m):=by
  intro n l m h;obtain⟨t,l',rfl,ht,h⟩:=qBa.cons h;have:=qBa.nil h;subst this;have q:t.is 1 []=true:=by rw[Tok.is_key ht];rfl
  unfold qBm;simp only[qAS,if_pos q,(Tok.key_n ht).2.2];rfl
 unfold Dc.st qBD at h0;simp only[Dc.mk.injEq]at h0;obtain⟨e1,e2, -,e3,e4,e5,e6,e7,e8,e9,e10,e11,e12,e13,e14,e15,e16⟩:=h0;have e15':d0.rows=[]:=by simpa using e15
 cases x<;>simp only[qFy,qIt,qD6,qC2,qBv,qCn,Fg.word]at hx
 ·cases ho:d.object<;>simp[ho]at hx
  subst hx;have:=qBa.nil h;subst this;refine⟨_,rfl,?_⟩;simp only[Dc.st,qBD,qCc,Dc.mk.injEq]
  simp_all
 ·cases ho:d.mixed<;>simp[ho]at hx
  subst hx;have:=qBa.nil h;subst this;refine⟨_,rfl,?_⟩;simp only[Dc.st,qBD,qCc,Dc.mk.injEq]
  simp_all
 ·cases ho:d.coin<;>simp[ho]at hx
  subst hx;have:=qBa.nil h;subst this;refine⟨_,rfl,?_⟩;simp only[Dc.st,qBD,qCc,Dc.mk.injEq]
  simp_all
 ·by_cases e:d.wear=0
  ·simp[e]at hx
  ·rw[if_neg e]at hx
   injection hx with _ hx;subst hx;unfold pFg;rw[num h];refine⟨_,rfl,?_⟩;simp only[Dc.st,qBD,qCc,Dc.mk.injEq]
   simp_all
 ·by_cases e:d.bind=1
  ·rw[if_pos e]at hx
   injection hx with _ hx;subst hx;obtain⟨t,l',rfl,ht,h⟩:=qBa.cons h;have:=qBa.nil h;subst this;have q1:isT 0 qHM (t::l')=false:=by show t.is 0 qHM=false;rw[Tok.is_key ht];decide
   have q2:isT 0 qIx (t::l')=true:=by show t.is 0 qIx=true;rw[Tok.is_key ht];decide
   unfold pFg;simp only[q1,q2,if_true];refine⟨_,rfl,?_⟩;simp only[Dc.st,qBD,qCc,Dc.mk.injEq]
   simp_all
  ·rw[if_neg e]at hx
   by_cases e2:d.bind=2
   ·rw[if_pos e2]at hx
    injection hx with _ hx;subst hx;obtain⟨t,l',rfl,ht,h⟩:=qBa.cons h;have:=qBa.nil h;subst this;have q1:isT 0 qHM (t::l')=true:=by show t.is 0 qHM=true;rw[Tok.is_key ht];decide
    unfold pFg;simp only[q1,if_true];refine⟨_,rfl,?_⟩;simp only[Dc.st,qBD,qCc,Dc.mk.injEq]
    simp_all
   ·rw[if_neg e2]at hx;cases hx
 ·by_cases e:d.level=0
  ·simp[e]at hx
  ·rw[if_neg e]at hx
   injection hx with _ hx;subst hx;unfold pFg;rw[num h];refine⟨_,rfl,?_⟩;simp only[Dc.st,qBD,qCc,Dc.mk.injEq]
   simp_all
 ·by_cases e:d.time=0
  ·simp[e]at hx
  ·rw[if_neg e]at hx
   injection hx with _ hx;subst hx;unfold pFg;rw[num h];refine⟨_,rfl,?_⟩;simp only[Dc.st,qBD,qCc,Dc.mk.injEq]
   simp_all
 ·by_cases e:d.chance=0/\d.of_=0
  ·simp[e]at hx
  ·rw[if_neg e]at hx
   injection hx with _ hx;subst hx;obtain⟨m,h1,h2⟩:=qBa.app (a:=[pcN d.chance]) h;obtain⟨t,l',rfl,ht,h3⟩:=qBa.cons h2;have q1:t.is 0 wOf=true:=by rw[Tok.is_key ht];decide
   unfold pFg;rw[num h1];simp only[qAS,if_pos q1,num h3];refine⟨_,rfl,?_⟩;simp only[Dc.st,qBD,qCc,Dc.mk.injEq]
   simp_all
 ·by_cases e:d.take=[]
  ·simp[e]at hx
  ·rw[if_neg (by simpa using e)]at hx
   injection hx with _ hx;subst hx;obtain⟨l',e17,e18⟩:=qB9 d.take r toks e h hr;unfold pFg;rw[e17];refine⟨_,rfl,?_⟩;simp only[Dc.st,qBD,qCc,Dc.mk.injEq]
   simp_all
 ·by_cases e:d.give=[]
  ·simp[e]at hx
  ·rw[if_neg (by simpa using e)]at hx
   injection hx with _ hx;subst hx;obtain⟨l',e17,e18⟩:=qB9 d.give r toks e h hr;unfold pFg;rw[e17];refine⟨_,rfl,?_⟩;simp only[Dc.st,qBD,qCc,Dc.mk.injEq]
   simp_all
 ·by_cases e:d.back=[]
  ·simp[e]at hx
  ·rw[if_neg (by simpa using e)]at hx
   injection hx with _ hx;subst hx;obtain⟨l',e17,e18⟩:=qB9 d.back r toks e h hr;unfold pFg;rw[e17];refine⟨_,rfl,?_⟩;simp only[Dc.st,qBD,qCc,Dc.mk.injEq]
   simp_all
def qJJ(d:Dc):Prop:=0<=d.bind/\d.bind<=2
theorem qGm{d:Dc}{k:Int}{s:Bs}(hk:∀x:Fg,((0:Int)==k && (s.isEmpty||x.word==s))=false){r:List Tok}(hr:isT k s r=false):∀(xs:List Fg) (m:List Tok),qBa (xs.flatMap (qFy d)) r m->isT k s m=false
 |[],m,h=>by rw[qBa.nil h];exact hr
 |x::xs,m,h=>by
  rw[List.flatMap_cons]at h;rcases qF1 d x with e|⟨ps,e⟩
  ·rw[e]at h
   exact qGm hk hr xs m h
  ·rw[e]at h
   rw[qDt h];exact hk x
def qC3(xs:List Fg)(S:Fg->Bool):Fg->Bool:=fun y=>decide (y∈xs)||S y
theorem qDG{known:List Fg}(hw:∀x∈known,known.find? (fun y=>x.word==y.word)=some x){d:Dc}(hb:qJJ d):∀(xs:List Fg) (f:Nat) (seen:List Fg) (d0:Dc) (S:Fg->Bool) (r toks:List Tok),
 xs.Nodup->(∀x∈xs,x∈known)->(∀x∈xs,x∉seen)->toks.length<f->qBa (xs.flatMap (qFy d)) r toks->d0.st=qBD d S->isT 0 [] r=false->isT 2 [44] r=false->
 ∃d1,qA6 known f seen d0 toks=.ok (d1,r)/\d1.st=qBD d (qC3 xs S)
 |[],f,seen,d0,S,r,toks,_,_,_,hf,h,h0,h1,h2=>by
  have:=qBa.nil h;subst this;have hS:qC3 [] S=S:=by funext y;simp[qC3]
  rw[hS];obtain⟨f,rfl⟩:∃g,f=g+1:=⟨f-1,by omega⟩;cases toks with
  |nil=>exact⟨d0,rfl,h0⟩
  |cons t r=>
   have:t.is 0 []=false:=h1;refine⟨d0,?_,h0⟩;simp only[qA6,this];rfl
 |x::xs,f,seen,d0,S,r,toks,hn,hm,hs,hf,h,h0,h1,h2=>by
  rw[List.flatMap_cons]at h;have hn':=List.nodup_cons.1 hn;have hS:qC3 xs (qCc S x)=qC3 (x::xs) S:=by
   funext y
   simp only[qC3,qCc,List.mem_cons];by_cases e1:y=x<;>by_cases e2:y∈xs<;>simp[e1,e2]
  rcases qF1 d x with e|⟨ps,e⟩
  ·rw[e]at h
   obtain⟨d1,e1,e2⟩:=qDG hw hb xs f seen d0 (qCc S x) r toks hn'.2 (fun y hy=>hm y (by simp[hy])) (fun y hy=>hs y (by simp[hy])) hf h (by rw[qH0 e hb];exact h0) h1 h2;rw[hS]at e2;exact⟨d1,e1,e2⟩
  ·obtain⟨m,ha,hb2⟩:=qBa.app h
   have hm2:isT 2 [44] m=false:=qGm (fun y=>by simp) h2 xs m hb2;rw[e]at ha;obtain⟨t,l',rfl,ht,ha⟩:=qBa.cons ha;obtain⟨d1,e1,e2⟩:=qKj e ha h0 hm2;have hl:m.length<=l'.length:=by
    obtain⟨ts,rfl,-⟩:=ha;simp
   obtain⟨f,rfl⟩:∃g,f=g+1:=⟨f-1,by omega⟩;obtain⟨d2,e3,e4⟩:=qDG hw hb xs f (x::seen) d1 (qCc S x) r m hn'.2 (fun y hy=>hm y (by simp[hy])) (fun y hy hc=>by
    rcases List.mem_cons.1 hc with rfl|hc
    ·exact hn'.1 hy
    ·exact hs y (by simp[hy]) hc) (by simp only[List.length_cons]at hf;omega) hb2 e2 h1 h2
   rw[hS]at e4;refine⟨d2,?_,e4⟩;have q1:t.is 0 []=true:=by rw[Tok.is_key ht];rfl
   have q2:t.text=x.word:=(Tok.key_n ht).2.1;have q3:seen.contains x=false:=by
    have:=hs x (by simp);simpa using this
   simp only[qA6,if_pos q1,q2,hw x (hm x (by simp)),q3,e1];exact e3
theorem qGA:∀x∈qCp,qCp.find? (fun y=>x.word==y.word)=some x:=by decide +kernel
theorem qGz:∀x∈qBX,qBX.find? (fun y=>x.word==y.word)=some x:=by decide +kernel
theorem qHd{α:Type}(l:List α)(k:Nat)(x:α):x∈qIP l k ↔ x∈l:=by
 unfold qIP
 conv=>rhs;rw[<-List.take_append_drop k l]
 simp only[List.mem_append];exact Or.comm
theorem qHZ{α:Type}(l:List α)(k:Nat)(h:l.Nodup):(qIP l k).Nodup:=by
 unfold qIP;rw[<-List.take_append_drop k l]at h;exact(List.perm_append_comm.nodup_iff).1 h
theorem qH1{d:Dc}(h:qAL d=true)(hk:d.kind<=2)(S:Fg->Bool)(hS:∀x∈qCb d.kind,S x=true):qBD d S=d.st:=by
 unfold qAL at h;by_cases h0:d.kind=0
 ·rw[if_pos h0]at h
  simp only[qCb,if_pos h0,qCp,List.mem_cons,List.not_mem_nil,or_false,forall_eq_or_imp,forall_eq]at hS;obtain⟨s1,s2,s3,s4,s5,s6⟩:=hS;simp[qBQ]at h;obtain⟨⟨⟨⟨hr,h7⟩,h8⟩,-⟩,-⟩:=h;simp[qBD,Dc.st,s1,s2,s3,s4,s5,s6,hr,h7,h8,stL]
 ·rw[if_neg h0]at h
  by_cases h12:d.kind=1\/d.kind=2
  ·rw[if_pos h12]at h
   simp only[qCb,if_neg h0,qBX,List.mem_cons,List.not_mem_nil,or_false,forall_eq_or_imp,forall_eq]at hS;obtain⟨s1,s2,s3,s4,s5,s6⟩:=hS;simp[qBH]at h;obtain⟨⟨⟨⟨⟨⟨h1,h2⟩,h3⟩,h4⟩,h5⟩,h6⟩,h7⟩:=h;simp[qBD,Dc.st,s1,s2,s3,s4,s5,s6,h1,h2,h3,h4,h5,h6,h7,stL]
  ·rw[if_neg h12,if_neg (by omega),if_neg (by omega)]at h
   cases h
def qDX(d:Dc)(k:Nat):List Pc:=if d.kind<=2 then (qIP (qCb d.kind) k).flatMap (qFy d)else qBz false d.rows++qC6 false d.brs
def pcD(d:Dc)(k:Nat):List Pc:=⟨[],0,qAs.getD d.kind.toNat [],0⟩::pcW d.name::(qDX d k++[pcC 59])
theorem qJ8(s:Bs)(k:Nat):qHY [s] k=s:=by
 cases k with
 |zero=>simp[qHY]
 |succ k=>simp[qHY]
theorem qKa(d:Dc)(k:Nat):qAl (pcD d k)++[10]=qBd d k:=by
 unfold pcD qBd;simp only[qAl,List.nil_append,List.append_assoc];rw[qAD]
 congr 1
 have:qAl (qDX d k)=qHY (qAf d) k:=by
  unfold qDX;by_cases h:d.kind<=2
  ·rw[if_pos h,qF4 d k h]
  ·rw[if_neg h,qAD,qEu,qE5]
   unfold qAf;rw[if_neg (by omega),if_neg h,qJ8]
 rw[this];simp[qAl,pcW,pcC]
theorem qDL{d:Dc}(h:qAL d=true):0<=d.kind/\d.kind<=4:=by
 unfold qAL at h;by_cases h0:d.kind=0
 ·omega
 ·rw[if_neg h0]at h
  by_cases h1:d.kind=1\/d.kind=2
  ·omega
  ·rw[if_neg h1]at h
   by_cases h3:d.kind=3
   ·omega
   ·rw[if_neg h3]at h
    by_cases h4:d.kind=4
    ·omega
    ·rw[if_neg h4]at h;cases h
theorem qJI{d:Dc}(h:qAL d=true):qJJ d:=by
 unfold qAL at h;unfold qJJ;by_cases h0:d.kind=0
 ·rw[if_pos h0]at h
  simp at h;omega
 ·rw[if_neg h0]at h
  have:qBH d=false:=by
   split at h
   ·simp at h;exact h.1.1
   ·split at h
    ·simp at h;exact h.1.1.1.1.1
    ·split at h
     ·simp at h;exact h.1.1.1.1
     ·cases h
  unfold qBH at this;simp at this;omega
theorem qKi:∀i:Fin 5,qAs.findIdx? (fun x=>(0:Int)==0 && (x.isEmpty||qAs.getD i.1 []==x))=some i.1:=by decide +kernel
theorem qIb{d d0:Dc}(h:qAL d=true)(k:Nat){r toks:List Tok}(hf:qBa (qDX d k) r toks)(h0:d0=Dc.zero d.kind d.name d0.at_)(h1:isT 0 [] r=false)(h2:isT 2 [44] r=false)(h3:isT 1 [] r=false)(h4:isT 2 [43] r=false):
 ∃d1,qA9 d.kind.toNat d0 toks=.ok (d1,r)/\d1.st=d.st:=by
 have hk:=qDL h;have hz:d0.st=qBD d (fun _=>false):=by rw[h0];simp[Dc.zero,Dc.st,qBD,stL]
 unfold qDX at hf;by_cases hk2:d.kind<=2
 ·rw[if_pos hk2]at hf
  have hw:∀x∈qCb d.kind,(qCb d.kind).find? (fun y=>x.word==y.word)=some x:=by
   unfold qCb
   split
   ·exact qGA
   ·exact qGz
  have hnd:(qCb d.kind).Nodup:=by
   unfold qCb
   split<;>decide
  obtain⟨d1,e1,e2⟩:=qDG hw (qJI h) (qIP (qCb d.kind) k) (toks.length+1) [] d0 (fun _=>false) r toks (qHZ _ _ hnd) (fun x hx=>(qHd _ _ _).1 hx) (fun x _=>by simp) (by omega) hf hz h1 h2;refine⟨d1,?_,?_⟩
  ·unfold qA9
   unfold qCb at e1;by_cases h00:d.kind=0
   ·rw[if_pos (by omega)]
    rw[if_pos h00]at e1;exact e1
   ·rw[if_neg (by omega),if_pos (by omega)]
    rw[if_neg h00]at e1;exact e1
  ·rw[e2]
   exact qH1 h hk2 _ (fun x hx=>by
    have:=(qHd (qCb d.kind) k x).2 hx;simp[qC3,this])
 ·rw[if_neg hk2]at hf
  have hs:=h;unfold qAL at hs;rw[if_neg (by omega),if_neg (by omega)]at hs;unfold qA9;rw[if_neg (by omega),if_neg (by omega)];by_cases h3':d.kind=3
  ·rw[if_pos h3']at hs
   simp[qBH,qBQ]at hs;obtain⟨⟨⟨⟨⟨g1,g2⟩,g3⟩,g4⟩,g5⟩,g6⟩:=hs;rw[if_pos (by omega)];rw[g4,show qC6 false []=[]from rfl,List.append_nil]at hf;have hle:d.rows.length<=toks.length:=by
    have:∀(l:List (List Pr)) (b:Bool),l.length<=(qBz b l).length:=by
     intro l
     induction l with
     |nil=>intro b;simp
     |cons x l ih=>intro b;have:=ih true;rw[qBz];simp;omega
    obtain⟨ts,rfl,hts⟩:=hf;have h5:=congrArg List.length hts;simp only[List.length_map]at h5;have:=this d.rows false;rw[List.length_append];omega
   obtain⟨l',e1,e2⟩:=qE9 d.rows (toks.length+1) r toks g5 (by omega) hf (fun x hx=>g6 x hx) h2 h3 h4;rw[e1];refine⟨_,rfl,?_⟩;rw[h0];simp only[Dc.st,Dc.zero,Dc.mk.injEq];simp[g1,g2,g3,g4,e2,stL]
  ·rw[if_neg h3']at hs
   have h4':d.kind=4:=by omega
   rw[if_pos h4']at hs;simp[qBH,qBQ]at hs;obtain⟨⟨⟨⟨g1,g2⟩,g3⟩,g4⟩,g5⟩:=hs;rw[if_neg (by omega)];rw[g4,show qBz false []=[]from rfl,List.nil_append]at hf;have e1:=qGa d.brs r toks g5 hf h2;rw[e1];refine⟨_,rfl,?_⟩;rw[h0];simp only[Dc.st,Dc.zero,Dc.mk.injEq];simp[g1,g2,g3,g4,stL]
theorem qH9{d:Dc}(h:qAL d=true)(k:Nat){r toks:List Tok}(hf:qBa (pcD d k) r toks):∃d1,qBi toks=.ok (d1,r)/\d1.st=d.st/\r.length<toks.length:=by
 have hk:=qDL h;have hlen:r.length<toks.length:=by
  obtain⟨ts,rfl,hts⟩:=hf;have:=congrArg List.length hts;simp[pcD]at this;rw[List.length_append];omega
 unfold pcD at hf;obtain⟨a,l1,rfl,ha,hf⟩:=qBa.cons hf;obtain⟨b,l2,rfl,hb,hf⟩:=qBa.cons hf;obtain⟨m,h1,h2⟩:=qBa.app hf;obtain⟨c,l3,rfl,hc,h3⟩:=qBa.cons h2;have:=qBa.nil h3;subst this;have q1:qBV (a::b::l2)=some d.kind.toNat:=by
  have:=qKi ⟨d.kind.toNat,by omega⟩;unfold qBV;rw[<-this]
  congr 1
  funext x
  exact Tok.is_key ha 0 x
 have q2:b.is 0 []=true:=by rw[Tok.is_key hb];rfl
 have q3:c.is 2 [59]=true:=by rw[Tok.is_key hc];decide
 have qn:b.text=d.name:=(Tok.key_n hb).2.1;have s1:isT 0 [] (c::l3)=false:=by show c.is _ _=_;rw[Tok.is_key hc];decide
 have s2:isT 2 [44] (c::l3)=false:=by show c.is _ _=_;rw[Tok.is_key hc];decide
 have s3:isT 1 [] (c::l3)=false:=by show c.is _ _=_;rw[Tok.is_key hc];decide
 have s4:isT 2 [43] (c::l3)=false:=by show c.is _ _=_;rw[Tok.is_key hc];decide
 have hkk:((d.kind.toNat:Nat):Int)=d.kind:=by omega
 obtain⟨d1,e1,e2⟩:=qIb (d0:=Dc.zero d.kind b.text b.at_) h k h1 (by rw[qn];rfl) s1 s2 s3 s4;refine⟨d1,?_,e2,hlen⟩;unfold qBi;rw[q1];simp only[List.drop_succ_cons,List.drop_zero,qAS,if_pos q2,hkk,e1,if_pos q3]
def okW:Bs->Bool
 |[]=>false
 |c::r=>cl c==1 && r.all wb && decide (r.length<=15)
theorem qCa{w:Bs}(h:okW w=true):qBU 0 w 0:=by
 cases w with
 |nil=>cases h
 |cons c r=>
  simp only[okW,Bool.and_eq_true,beq_iff_eq,List.all_eq_true,decide_eq_true_eq]at h;exact .word c r h.1.1 h.1.2 h.2
theorem qLO(x:Fg):okW x.word=true:=by cases x<;>decide +kernel
theorem qCO{w:Bs}(h:qBU 0 w 0):OkP (pcW w):=⟨h,.inl qJP.blank⟩
theorem qC8{n:Int}(h:qAi n=true):OkP (pcN n):=by
 simp only[qAi,Bool.and_eq_true,decide_eq_true_eq]at h;refine⟨?_,.inl qJP.blank⟩;have:=qJn n.toNat (by omega);rw[show((n.toNat:Nat):Int)=n by omega]at this;exact this
theorem qEF{c:UInt8}(h:cl c=4):OkP (pcC c):=⟨.sym c h,.inr ⟨rfl,rfl⟩⟩
def qBe(l:List Pc):Prop:=∀p∈l,OkP p
theorem qBe.nil:qBe []:=nofun
theorem qBe.cons{p:Pc}{l:List Pc}(h:OkP p)(h':qBe l):qBe (p::l):=fun q hq=>by
 rcases List.mem_cons.1 hq with rfl|hq
 ·exact h
 ·exact h' q hq
theorem qBe.app{a b:List Pc}(h:qBe a)(h':qBe b):qBe (a++b):=fun q hq=>(List.mem_append.1 hq).elim (h q) (h' q)
theorem qLC:∀(l:List Pr) (b:Bool),qAx l=true->okL l=true->qBe (pcL b l)
 |[],b,_,_=>by cases b<;>exact qBe.nil
 |p::l,b,hn,ho=>by
  simp only[qAx,okL,List.all_cons,Bool.and_eq_true]at hn ho;have h1:=qBe.cons (qC8 ho.1) (qBe.cons (qCO (qFh hn.1)) (qLC l true hn.2 ho.2));rw[pcL];cases b
  ·exact h1
  ·exact qBe.cons (qEF (by decide)) h1
theorem qHH:∀(l:List (List Pr)) (b:Bool),(∀r∈l,qAx r.tail=true)->(∀r∈l,okL r=true)->qBe (qBz b l)
 |[],b,_,_=>by cases b<;>exact qBe.nil
 |r::l,b,hn,ho=>by
  have h2:=qHH l true (fun x hx=>hn x (by simp[hx])) (fun x hx=>ho x (by simp[hx]));have o:=ho r (by simp);have ht:okL r.tail=true:=by
   cases r with
   |nil=>rfl
   |cons p r=>
    simp only[okL,List.all_cons,Bool.and_eq_true]at o;exact o.2
  have hh:qAi (qEZ r)=true:=by
   cases r with
   |nil=>rfl
   |cons p r=>
    simp only[okL,List.all_cons,Bool.and_eq_true]at o;exact o.1
  have h1:=qBe.app (qBe.cons (qC8 hh) (qBe.cons (qEF (c:=58) (by decide)) (qLC r.tail false (hn r (by simp)) ht))) h2;rw[qBz];cases b
  ·exact h1
  ·exact qBe.cons ⟨.sym 43 (by decide),.inl qJP.blank⟩ h1
theorem qJM:∀(l:List (Int×Int)) (b:Bool),(∀r∈l,qAi r.1=true/\qAi r.2=true)->qBe (qC6 b l)
 |[],b,_=>by cases b<;>exact qBe.nil
 |r::l,b,ho=>by
  have h2:=qJM l true (fun x hx=>ho x (by simp[hx]));have o:=ho r (by simp);have h1:=qBe.cons (qC8 o.1) (qBe.cons (qEF (c:=58) (by decide)) (qBe.cons (qC8 o.2) h2));rw[qC6];cases b
  ·exact h1
  ·exact qBe.cons (qEF (by decide)) h1
theorem qBB{d:Dc}(h:qDO d=0):qAL d=true/\qC9 d=true/\qBb d=true:=by
 unfold qDO at h;cases h1:qAL d<;>cases h2:qC9 d<;>cases h3:qBb d<;>simp[h1,h2,h3]at h ⊢
theorem qLZ{d:Dc}(hn:qC9 d=true)(hr:qBb d=true)(x:Fg):qBe (qFy d x):=by
 have hw:∀y:Fg,OkP (pcW y.word):=fun y=>qCO (qCa (qLO y));have cnt:∀(y:Fg) {n:Int},qAi n=true->qBe (qD6 y.word n):=by
  intro y n h;unfold qD6
  split
  ·exact qBe.nil
  ·exact qBe.cons (hw y) (qBe.cons (qC8 h) qBe.nil)
 have part:∀(y:Fg) {l:List Pr},qAx l=true->okL l=true->qBe (qCn y.word l):=by
  intro y l h h';unfold qCn
  split
  ·exact qBe.nil
  ·exact qBe.cons (hw y) (qLC l false h h')
 have fl:∀(y:Fg) (b:Bool),qBe (qIt y.word b):=by
  intro y b;unfold qIt
  split
  ·exact qBe.cons (hw y) qBe.nil
  ·exact qBe.nil
 simp only[qC9,qBb,Bool.and_eq_true]at hn hr;obtain⟨⟨⟨⟨⟨⟨⟨⟨⟨r1,r2⟩,r3⟩,r4⟩,r5⟩,r6⟩,r7⟩,r8⟩,r9⟩,r10⟩:=hr;obtain⟨⟨n1,⟨n2,n3⟩,n4⟩,n5⟩:=hn;cases x
 ·exact fl .object _
 ·exact fl .mixed _
 ·exact fl .coin _
 ·exact cnt .wear r1
 ·show qBe (qC2 d.bind)
  unfold qC2
  split
  ·exact qBe.cons (hw .bind) (qBe.cons (qCO (qCa (by decide +kernel))) qBe.nil)
  ·split
   ·exact qBe.cons (hw .bind) (qBe.cons (qCO (qCa (by decide +kernel))) qBe.nil)
   ·exact qBe.nil
 ·exact cnt .level r2
 ·exact cnt .time r3
 ·show qBe (qBv d.chance d.of_)
  unfold qBv
  split
  ·exact qBe.nil
  ·exact qBe.cons (hw .chance) (qBe.cons (qC8 r4) (qBe.cons (qCO (qCa (by decide +kernel))) (qBe.cons (qC8 r5) qBe.nil)))
 ·exact part .take n2 r6
 ·exact part .give n3 r7
 ·exact part .back n4 r8
theorem qL0{d:Dc}(h:qDO d=0)(k:Nat):qBe (pcD d k).tail:=by
 obtain⟨hs,hn,hr⟩:=qBB h;have hn':=hn;have hr':=hr;simp only[qC9,qBb,Bool.and_eq_true]at hn' hr';refine qBe.cons (qCO (qFh hn'.1.1)) (qBe.app ?_ (qBe.cons (qEF (by decide)) qBe.nil));unfold qDX
 split
 ·intro p hp
  obtain⟨x,_,hx⟩:=List.mem_flatMap.1 hp;exact qLZ hn hr x p hx
 ·refine qBe.app (qHH d.rows false (fun r hr9=>List.all_eq_true.1 hn'.2 r hr9) (fun r hr9=>List.all_eq_true.1 hr'.1.2 r hr9)) (qJM d.brs false (fun r hr9=> ?_))
  have:=List.all_eq_true.1 hr'.2 r hr9;simpa using this
theorem qK2{d:Dc}(h:qAL d=true):qBU 0 (qAs.getD d.kind.toNat []) 0:=by
 have hk:=qDL h;have:∀i:Fin 5,okW (qAs.getD i.1 [])=true:=by decide +kernel
 exact qCa (this ⟨d.kind.toNat,by omega⟩)
def qAK(l:List (Dc×Nat)):Bs:=(l.map (fun x=>qBd x.1 x.2)).flatten
theorem qMg(N:Nat)(r:Bs):lx N (10::r)=lx N r:=by rw[<-qDJ,qBW 10 r (by decide),qDJ]
theorem qGR(N:Nat)(f:Bs):∀l:List (Dc×Nat),(∀x∈l,qDO x.1=0)->∃ts,lx N (qAK l++f)=qIs ts (lx N f)/\ts.map Tok.key=(l.flatMap (fun x=>pcD x.1 x.2)).map Pc.key
 |[],_=>⟨[],by rw[qHf];rfl,rfl⟩
 |x::l,h=>by
  obtain⟨ts,h1,h2⟩:=qGR N f l (fun y hy=>h y (by simp[hy]));have hx:=h x (by simp);obtain⟨us,h3,h4⟩:=qIh N (10::(qAK l++f)) (fun k=>qHR (.inl (by decide)) _ k) ⟨[],0,qAs.getD x.1.kind.toNat [],0⟩ (pcD x.1 x.2).tail (qK2 (qBB hx).1) rfl (qL0 hx x.2);refine⟨us++ts,?_,by rw[List.map_append,h4,h2,List.flatMap_cons,List.map_append];rfl⟩;have e:qAK (x::l)++f=qAl (pcD x.1 x.2)++(10::(qAK l++f)):=by
   have:=qKa x.1 x.2
   show qBd x.1 x.2++qAK l++f=_
   rw[<-this];simp
  rw[e];refine h3.trans ?_;rw[qMg,h1,qFu]
theorem qEC:∀(l:List (Dc×Nat)) (f:Nat) (toks:List Tok),(∀x∈l,qAL x.1=true)->toks.length<f->qBa (l.flatMap (fun x=>pcD x.1 x.2)) [] toks->∃ds,qEa f toks=.ok ds/\ds.map Dc.st=l.map (fun x=>x.1.st)
 |[],f,toks,_,hf,h=>by
  have:=qBa.nil h;subst this;obtain⟨f,rfl⟩:∃g,f=g+1:=⟨f-1,by omega⟩;exact⟨[],rfl,rfl⟩
 |x::l,f,toks,hs,hf,h=>by
  rw[List.flatMap_cons]at h;obtain⟨m,h1,h2⟩:=qBa.app h;obtain⟨d1,e1,e2,e3⟩:=qH9 (hs x (by simp)) x.2 h1;obtain⟨f,rfl⟩:∃g,f=g+1:=⟨f-1,by omega⟩;obtain⟨ds,e4,e5⟩:=qEC l f m (fun y hy=>hs y (by simp[hy])) (by omega) h2;refine⟨d1::ds,?_,by simp only[List.map_cons,e2,e5]⟩;cases toks with
  |nil=>simp at e3
  |cons t r=>rw[qEa];simp only[e1,e4]
theorem qH6(l:List (Dc×Nat))(h:∀x∈l,qDO x.1=0)(hl:(qAK l).length<=8192):∃ds,qAj (qAK l)=.ok ds/\ds.map Dc.st=l.map (fun x=>x.1.st):=by
 obtain⟨ts,h1,h2⟩:=qGR (qAK l).length [] l h;rw[List.append_nil]at h1;have e0:lx (qAK l).length []=.ok []:=by rw[qCy];rfl
 rw[e0]at h1;have h1':lx (qAK l).length (qAK l)=.ok ts:=by rw[h1];simp[qIs]
 obtain⟨ds,e1,e2⟩:=qEC l (ts.length+1) ts (fun x hx=>(qBB (h x hx)).1) (by omega) ⟨ts,by simp,h2⟩;refine⟨ds,?_,e2⟩;unfold qAj;rw[if_neg (by omega),h1'];simp only[qDn,e1]
end Go.Proofs.YtpmnbcdjoomgcaaDoor
