/- Rows of one's own: append of one element, of many; blocks of integers that are written. -/
import Derived.Test.YtpmnbcdjoomgcaaDoorQAAll
import Derived.Maps.AppendAt
import Derived.Test.YtpmnbcdjoomgcaaDoorQARefWalks
import Derived.Test.YtpmnbcdjoomgcaaDoorProg
import Derived.Deep.AppendLies
import Derived.WalkKit
import Derived.WalkSpells
import Derived.WalkLawsBesides
set_option linter.unusedVariables false
set_option linter.unusedSimpArgs false
set_option maxHeartbeats 2000000
namespace Go.Proofs.YtpmnbcdjoomgcaaDoor
open Go.RowKit Go.Shelf
attribute [local go_sem] Oper.semAt_some
theorem qKu(s:ByteArray)(w:World):
 Calls Tryd.prog 50 #[.string s] w fun e w'=>e=.returned (.func (.func 79) #[] #[.pointer (some ⟨w.heap.size,0,none⟩)])/\w'=w.alloc (.cells #[.string s] 9):=by
 go_enter Tryd.func50,Tryd.ntmps50
 go_wp2
 go_ret;exact⟨rfl,rfl⟩
def qBn(t:Tok):List Value:=[.int .i64 t.kind,.string ⟨t.text.toArray⟩,.int .i64 t.n,.int .i64 t.at_]
def qBQ(ts:List Tok):List Value:=ts.flatMap qBn
theorem qF1(ts:List Tok)(t:Tok):qBQ (ts++[t])=qBQ ts++qBn t:=by simp[qBQ]
def lxs(s:ByteArray):Except (Nat×Int) (List Tok):=if 8192<s.size then .error (0,4)else lx s.size s.data.toList
def qGE(E:TypeId)(s:ByteArray)(w:World)(e:Ending)(w':World):Prop:=
 Below w.heap.size w w'/\((∃ts v,lxs s=.ok ts/\ts.length<=s.size/\e=.returned (.tuple #[v,.int .i64 0,.int .i64 0])/\w'.ownsRow w.heap.size E 4 v ts.length (qBQ ts))\/
  (∃k er,lxs s=.error (k,er)/\e=.returned (.tuple #[.slice none 0 0,.int .i64 (k:Nat),.int .i64 er])/\(er=2\/er=4)))
theorem qF0(w:World)(l:List Value)(t:TypeId):∀j u,l[j]? =some u->(w.alloc (.cells l.toArray t)).cell? ((⟨w.heap.size,0,none⟩:Addr).add j)=some u:=by
 intro j u h;have hadd:(⟨w.heap.size,0,none⟩:Addr).add j=⟨w.heap.size,j,none⟩:=by unfold Addr.add;split<;>simp_all
 rw[hadd,cell_of_row _ w.heap.size j l.toArray t (0,0) (World.alloc_heap_new w _)];simpa using h
def Frm(Wb W:World)(ex:List Nat):Prop:=W.os=Wb.os/\W.tape=Wb.tape/\W.output=Wb.output/\Wb.heap.size<=W.heap.size/\∀k,k<Wb.heap.size->k∉ex->W.heap[k]? =Wb.heap[k]?
theorem Frm.below{Wb W W':World}{ex:List Nat}(h:Frm Wb W ex)(hb:Below W.heap.size W W'):Frm Wb W' ex:=
 ⟨hb.os.trans h.1,hb.tape.trans h.2.1,hb.output.trans h.2.2.1,Nat.le_trans h.2.2.2.1 hb.size,fun k hk hx=>(hb.block k (Nat.lt_of_lt_of_le hk h.2.2.2.1)).trans (h.2.2.2.2 k hk hx)⟩
theorem qHF(w:World)(a b c d e:Value)(ta tb tc td te:TypeId):
 Boxed (((((w.alloc (.cells #[a] ta)).alloc (.cells #[b] tb)).alloc (.cells #[c] tc)).alloc (.cells #[d] td)).alloc (.cells #[e] te)) w.heap.size ta a/\
 Boxed (((((w.alloc (.cells #[a] ta)).alloc (.cells #[b] tb)).alloc (.cells #[c] tc)).alloc (.cells #[d] td)).alloc (.cells #[e] te)) (w.heap.size+1) tb b/\
 Boxed (((((w.alloc (.cells #[a] ta)).alloc (.cells #[b] tb)).alloc (.cells #[c] tc)).alloc (.cells #[d] td)).alloc (.cells #[e] te)) (w.heap.size+2) tc c/\
 Boxed (((((w.alloc (.cells #[a] ta)).alloc (.cells #[b] tb)).alloc (.cells #[c] tc)).alloc (.cells #[d] td)).alloc (.cells #[e] te)) (w.heap.size+3) td d/\
 Boxed (((((w.alloc (.cells #[a] ta)).alloc (.cells #[b] tb)).alloc (.cells #[c] tc)).alloc (.cells #[d] td)).alloc (.cells #[e] te)) (w.heap.size+4) te e:=by
 have h1:=(((Boxed.new w ta a).alloc (.cells #[b] tb)).alloc (.cells #[c] tc)).alloc (.cells #[d] td);have h2:=((Boxed.new (w.alloc (.cells #[a] ta)) tb b).alloc (.cells #[c] tc)).alloc (.cells #[d] td);have h3:=(Boxed.new ((w.alloc (.cells #[a] ta)).alloc (.cells #[b] tb)) tc c).alloc (.cells #[d] td);have h4:=Boxed.new (((w.alloc (.cells #[a] ta)).alloc (.cells #[b] tb)).alloc (.cells #[c] tc)) td d;have h5:=Boxed.new ((((w.alloc (.cells #[a] ta)).alloc (.cells #[b] tb)).alloc (.cells #[c] tc)).alloc (.cells #[d] td)) te e;simp only[World.size_alloc,Nat.add_assoc,Nat.reduceAdd]at h2 h3 h4 h5;exact⟨h1.alloc _,h2.alloc _,h3.alloc _,h4.alloc _,h5⟩
theorem qKk:(Tryd.prog.info? 55).map (fun i=>(i.zero,i.size,i.bytes))=some (some (.agg #[.int .i64 0,.string ⟨#[]⟩,.int .i64 0,.int .i64 0]),4,40):=by kernel_rfl
def TJ(B:Nat)(rec:LoopState->Option Code->Loop)(Wb:World)(pre:List Tok)(R:Option Nat)(W:World):Prop:=
 Frm Wb W [B+3,B+6]/\W.heap[B+6]? =some (.loop (rec .ready none))/\∃v,Boxed W (B+3) 49 v/\W.ownsRow (B+7) 55 4 v pre.length (qBQ pre)/\R=v.ownBlock
theorem qDM{W W':World}(hb:Below W.heap.size W W')(row:Option Nat):W.grownBy W' row:=⟨hb.os,hb.tape,hb.output,hb.size,fun k hk _=>hb.block k hk⟩
theorem qB1{W W':World}{base e size n:Nat}{v:Value}{xs:List Value}(h:W.ownsRow base e size v n xs)(hb:Below W.heap.size W W'):W'.ownsRow base e size v n xs:=
 h.kept (qDM hb none) (by cases v.ownBlock<;>simp)
theorem TJ.below{B:Nat}{rec:LoopState->Option Code->Loop}{Wb:World}{pre:List Tok}{R:Option Nat}{W W':World}(h:TJ B rec Wb pre R W)(hb:Below W.heap.size W W'):TJ B rec Wb pre R W':=by
 obtain⟨hF,hl,v,hT,hrow,hR⟩:=h;exact⟨hF.below hb,(hb.block _ (Array.getElem?_eq_some_iff.1 hl).1).trans hl,v,(hb.block _ hT.lt).trans hT,qB1 hrow hb,hR⟩
theorem qFI{W:World}{base base' e size n:Nat}{v:Value}{xs:List Value}(hb:base'<=base)(h:W.ownsRow base e size v n xs):W.ownsRow base' e size v n xs:=by
 refine⟨h.1,?_⟩;rcases h.2 with h|⟨g,cap,cur,hv,hb',rest⟩
 ·exact .inl h
 ·exact .inr ⟨g,cap,cur,hv,Nat.le_trans hb hb',rest⟩
theorem qEa{W:World}{base e size n:Nat}{v:Value}{xs:List Value}(h:W.ownsRow base e size v n xs){k:Nat}(hk:k<base):some k≠v.ownBlock:=by
 intro e;have:=(h.lt k e.symm).1;omega
theorem qAp(w:World)(a:Addr)(v:Value):(w.setCell a v).heap.size=w.heap.size:=by
 show(w.heap.modify _ _).size=_
 rw[Array.size_modify]
theorem qJ8(B:Nat)(rec:LoopState->Option Code->Loop)(Wb W W2 w1:World)(v v':Value)(pre:List Tok)(t:Tok)(C D:Obj)
 (hF:Frm Wb W [B+3,B+6])(hB:Wb.heap.size=B+7)(hW2:W2=(W.alloc C).putObj (B+6) (.loop (rec .busy none)))(hlW:B+6<W.heap.size)
 (hT:Boxed W2 (B+3) 49 v)(hrow:W2.ownsRow (B+7) 55 4 v pre.length (qBQ pre))
 (hg:(W2.alloc D).grownBy w1 v.ownBlock)(hown:w1.ownsRow (B+7) 55 4 v' (pre.length+1) (qBQ pre++qBn t)):
 (w1.setCell ⟨B+3,0,none⟩ v').heap[B+6]? =some (.loop (rec .busy none))/\
 TJ B rec Wb (pre++[t]) v'.ownBlock ((w1.setCell ⟨B+3,0,none⟩ v').putObj (B+6) (.loop (rec .ready none)))/\
 qKz (B+6) (B+3) v.ownBlock W ((w1.setCell ⟨B+3,0,none⟩ v').putObj (B+6) (.loop (rec .ready none))):=by
 have hz2:W2.heap.size=W.heap.size+1:=by rw[hW2];simp
 have hl2:W2.heap[B+6]? =some (.loop (rec .busy none)):=by rw[hW2];exact World.putObj_heap_same (by simp;omega)
 have hl3:(w1.setCell ⟨B+3,0,none⟩ v').heap[B+6]? =some (.loop (rec .busy none)):=
  (Below.heap_setCell _ _ _ _ (by show B+6≠B+3;omega)).trans ((hg.block _ (by simp;omega) (qEa hrow (by omega))).trans ((Below.heap_alloc _ _ _ (by omega)).trans hl2))
 have hkeep:∀k,k<W.heap.size->some k≠v.ownBlock->k≠B+6->k≠B+3->((w1.setCell ⟨B+3,0,none⟩ v').putObj (B+6) (.loop (rec .ready none))).heap[k]? =W.heap[k]? :=by
  intro k hk hne h6 h3;refine(World.putObj_heap_other h6).trans ((Below.heap_setCell _ _ _ _ (by show k≠B+3;omega)).trans ((hg.block _ (by simp;omega) hne).trans ((Below.heap_alloc _ _ _ (by omega)).trans ?_)));rw[hW2];exact(World.putObj_heap_other h6).trans (Below.heap_alloc _ _ _ hk)
 have hsz:W.heap.size<=((w1.setCell ⟨B+3,0,none⟩ v').putObj (B+6) (.loop (rec .ready none))).heap.size:=by
  have:=hg.size;simp only[World.size_alloc]at this;rw[World.putObj_size,qAp];omega
 have hv1:Boxed w1 (B+3) 49 v:=(hT.alloc D).kept hg (hT.not_row (by decide) hrow);refine⟨hl3,⟨⟨?_,?_,?_,?_,?_⟩,World.putObj_heap_same (by
  have:=hg.size;simp only[World.size_alloc]at this;rw[qAp];omega),v',?_,?_,rfl⟩,hsz,hkeep⟩
 ·exact hg.os.trans (by rw[hW2];exact hF.1)
 ·exact hg.tape.trans (by rw[hW2];exact hF.2.1)
 ·exact hg.output.trans (by rw[hW2];exact hF.2.2.1)
 ·exact Nat.le_trans hF.2.2.2.1 hsz
 ·intro k hk hx
  simp only[List.mem_cons,List.not_mem_nil,or_false,not_or]at hx;exact(hkeep k (by have:=hF.2.2.2.1;omega) (qEa hrow (by omega)) hx.2 hx.1).trans (hF.2.2.2.2 k hk (by simp;omega))
 ·exact(World.putObj_heap_other (by omega)).trans (hv1.set v')
 ·rw[qF1,List.length_append]
  exact ownsRow_putObj (hown.kept (grownBy_setCell' w1 (B+3) v') (.inr (hv1.not_row (by decide) hown).symm)) _ hl3 rfl
def TX(B:Nat)(rec:LoopState->Option Code->Loop)(Wb:World)(k:Nat)(er:Int)(W:World):Prop:=
 Frm Wb W [B+3,B+6,B,B+1,B+2]/\W.heap[B+6]? =some (.loop (rec .done (some .ret)))/\Boxed W B 49 (.slice none 0 0)/\Boxed W (B+1) 3 (.int .i64 k)/\Boxed W (B+2) 36 (.int .i64 er)
theorem TX.below{B:Nat}{rec:LoopState->Option Code->Loop}{Wb:World}{k:Nat}{er:Int}{W W':World}(h:TX B rec Wb k er W)(hb:Below W.heap.size W W'):TX B rec Wb k er W':=by
 obtain⟨hF,hl,e2,e3,e4⟩:=h;exact⟨hF.below hb,(hb.block _ (Array.getElem?_eq_some_iff.1 hl).1).trans hl,(hb.block _ e2.lt).trans e2,(hb.block _ e3.lt).trans e3,(hb.block _ e4.lt).trans e4⟩
theorem qCo(B:Nat)(rec:LoopState->Option Code->Loop)(Wb W W2 X:World)(k:Nat)(er:Int){C:Obj}(a:Act)
 (hF:Frm Wb W [B+3,B+6])(hB:Wb.heap.size=B+7)(hW2:W2=(W.alloc C).putObj (B+6) (.loop (rec .busy none)))(hlW:B+6<W.heap.size)
 (hs:X.os=W2.os/\X.tape=W2.tape/\X.output=W2.output)(hz:X.heap.size=W2.heap.size)
 (hX:∀k,k≠B->k≠B+1->k≠B+2->X.heap[k]? =W2.heap[k]?)
 (h2:Boxed X B 49 (.slice none 0 0))(h3:Boxed X (B+1) 3 (.int .i64 k))(h4:Boxed X (B+2) 36 (.int .i64 er)):
 qDZ (B+6) rec (fun e W'=>e=.returned (.bool false)/\TX B rec Wb k er W') .ret a X:=by
 have hz2:W2.heap.size=W.heap.size+1:=by rw[hW2];simp
 have hl2:W2.heap[B+6]? =some (.loop (rec .busy none)):=by rw[hW2];exact World.putObj_heap_same (by simp;omega)
 have hlX:X.heap[B+6]? =some (.loop (rec .busy none)):=(hX _ (by omega) (by omega) (by omega)).trans hl2;refine⟨hlX,rfl,⟨?_,?_,?_,?_,?_⟩,World.putObj_heap_same (by omega),?_,?_,?_⟩
 ·exact hs.1.trans (by rw[hW2];exact hF.1)
 ·exact hs.2.1.trans (by rw[hW2];exact hF.2.1)
 ·exact hs.2.2.trans (by rw[hW2];exact hF.2.2.1)
 ·have:=hF.2.2.2.1
  rw[World.putObj_size];omega
 ·intro j hj hx
  simp only[List.mem_cons,List.not_mem_nil,or_false,not_or]at hx;refine(World.putObj_heap_other hx.2.1).trans ((hX _ hx.2.2.1 hx.2.2.2.1 hx.2.2.2.2).trans ?_);rw[hW2];exact(World.putObj_heap_other hx.2.1).trans ((Below.heap_alloc _ _ _ (by have:=hF.2.2.2.1;omega)).trans (hF.2.2.2.2 j hj (by simp;omega)))
 ·exact(World.putObj_heap_other (by omega)).trans h2
 ·exact(World.putObj_heap_other (by omega)).trans h3
 ·exact(World.putObj_heap_other (by omega)).trans h4
theorem qJ7(B:Nat)(rec:LoopState->Option Code->Loop)(Wb W W2:World)(x1 x2 x3:Nat)(u1 u2 u3:Value)(k:Nat)(er:Int){C:Obj}(a:Act)
 (hF:Frm Wb W [B+3,B+6])(hB:Wb.heap.size=B+7)(hW2:W2=(W.alloc C).putObj (B+6) (.loop (rec .busy none)))(hlW:B+6<W.heap.size)
 (h2:Boxed W2 B 49 (.slice none 0 0))(h3:Boxed W2 (B+1) 3 (.int .i64 0))(h4:Boxed W2 (B+2) 36 (.int .i64 0))
 (hp:(x1=B/\u1=.slice none 0 0/\x2=B+1/\u2=.int .i64 k/\x3=B+2/\u3=.int .i64 er)\/
  (x1=B/\u1=.slice none 0 0/\x3=B+1/\u3=.int .i64 k/\x2=B+2/\u2=.int .i64 er)\/
  (x2=B/\u2=.slice none 0 0/\x1=B+1/\u1=.int .i64 k/\x3=B+2/\u3=.int .i64 er)\/
  (x2=B/\u2=.slice none 0 0/\x3=B+1/\u3=.int .i64 k/\x1=B+2/\u1=.int .i64 er)\/
  (x3=B/\u3=.slice none 0 0/\x1=B+1/\u1=.int .i64 k/\x2=B+2/\u2=.int .i64 er)\/
  (x3=B/\u3=.slice none 0 0/\x2=B+1/\u2=.int .i64 k/\x1=B+2/\u1=.int .i64 er)):
 qDZ (B+6) rec (fun e W'=>e=.returned (.bool false)/\TX B rec Wb k er W') .ret a ((((W2.setCell ⟨x1,0,none⟩ u1).setCell ⟨x2,0,none⟩ u2).setCell ⟨x3,0,none⟩ u3).drew):=by
 have hz:((((W2.setCell ⟨x1,0,none⟩ u1).setCell ⟨x2,0,none⟩ u2).setCell ⟨x3,0,none⟩ u3).drew).heap.size=W2.heap.size:=by
  show(((W2.setCell ⟨x1,0,none⟩ u1).setCell ⟨x2,0,none⟩ u2).setCell ⟨x3,0,none⟩ u3).heap.size=_
  rw[qAp,qAp,qAp]
 have hX:∀k,k≠x1->k≠x2->k≠x3->((((W2.setCell ⟨x1,0,none⟩ u1).setCell ⟨x2,0,none⟩ u2).setCell ⟨x3,0,none⟩ u3).drew).heap[k]? =W2.heap[k]? :=by
  intro k e1 e2 e3
  show(((W2.setCell ⟨x1,0,none⟩ u1).setCell ⟨x2,0,none⟩ u2).setCell ⟨x3,0,none⟩ u3).heap[k]? =_
  exact(Below.heap_setCell _ ⟨x3,0,none⟩ _ _ e3).trans ((Below.heap_setCell _ ⟨x2,0,none⟩ _ _ e2).trans (Below.heap_setCell _ ⟨x1,0,none⟩ _ _ e1))
 rcases hp with ⟨rfl,rfl,rfl,rfl,rfl,rfl⟩|⟨rfl,rfl,rfl,rfl,rfl,rfl⟩|⟨rfl,rfl,rfl,rfl,rfl,rfl⟩|⟨rfl,rfl,rfl,rfl,rfl,rfl⟩|⟨rfl,rfl,rfl,rfl,rfl,rfl⟩|⟨rfl,rfl,rfl,rfl,rfl,rfl⟩
 ·exact qCo _ rec Wb W W2 _ k er a hF hB hW2 hlW ⟨rfl,rfl,rfl⟩ hz (fun k e1 e2 e3=>hX k e1 e2 e3) (((h2.set _).other (by omega) _).other (by omega) _) (((h3.other (by omega) _).set _).other (by omega) _) (((h4.other (by omega) _).other (by omega) _).set _)
 ·exact qCo _ rec Wb W W2 _ k er a hF hB hW2 hlW ⟨rfl,rfl,rfl⟩ hz (fun k e1 e2 e3=>hX k e1 e3 e2) (((h2.set _).other (by omega) _).other (by omega) _) (((h3.other (by omega) _).other (by omega) _).set _) (((h4.other (by omega) _).set _).other (by omega) _)
 ·exact qCo _ rec Wb W W2 _ k er a hF hB hW2 hlW ⟨rfl,rfl,rfl⟩ hz (fun k e1 e2 e3=>hX k e2 e1 e3) (((h2.other (by omega) _).set _).other (by omega) _) (((h3.set _).other (by omega) _).other (by omega) _) (((h4.other (by omega) _).other (by omega) _).set _)
 ·exact qCo _ rec Wb W W2 _ k er a hF hB hW2 hlW ⟨rfl,rfl,rfl⟩ hz (fun k e1 e2 e3=>hX k e3 e1 e2) (((h2.other (by omega) _).set _).other (by omega) _) (((h3.other (by omega) _).other (by omega) _).set _) (((h4.set _).other (by omega) _).other (by omega) _)
 ·exact qCo _ rec Wb W W2 _ k er a hF hB hW2 hlW ⟨rfl,rfl,rfl⟩ hz (fun k e1 e2 e3=>hX k e2 e3 e1) (((h2.other (by omega) _).other (by omega) _).set _) (((h3.set _).other (by omega) _).other (by omega) _) (((h4.other (by omega) _).set _).other (by omega) _)
 ·exact qCo _ rec Wb W W2 _ k er a hF hB hW2 hlW ⟨rfl,rfl,rfl⟩ hz (fun k e1 e2 e3=>hX k e3 e2 e1) (((h2.other (by omega) _).other (by omega) _).set _) (((h3.other (by omega) _).set _).other (by omega) _) (((h4.set _).other (by omega) _).other (by omega) _)
theorem qHP(s:ByteArray)(w:World)(hs:s.size<=8192)(hK:qA2 w):
 CallsIn Fence.wide 5 Tryd.prog 22 #[.string s] w (qGE 55 s w):=by
 have HK:=hZ hK;clear hK;refine callsIn_of_wp_marks Tryd.func22 rfl trivial ?_ rfl;simp only[Tryd.ntmps22,List.size_toArray,List.length_cons,List.length_nil,Nat.reduceAdd,Nat.reduceSub,Array.replicate_succ,Array.replicate_zero,List.push_toArray,List.append_toArray,List.nil_append,List.cons_append]
 gi_wp2_with (refine⟨trivial,?_⟩;gi_at_call 50;refine(callsIn_wide.2 (qKu _ _)).mono ?_;rintro e w' ⟨rfl,rfl⟩)
 obtain⟨w0,hw0⟩:∃w0,(((((w.alloc (Obj.cells #[Value.slice none 0 0] 49)).alloc (Obj.cells #[Value.int IntKind.i64 0] 3)).alloc
  (Obj.cells #[Value.int IntKind.i64 0] 36)).alloc
  (Obj.cells #[Value.slice none 0 0] 49)).alloc
  (Obj.cells #[Value.string s] 9))=w0:=⟨_,rfl⟩
 rw[hw0];have hz0:w0.heap.size=w.heap.size+5:=by rw[<-hw0];simp
 refine qHm rfl (by omega) (gf:=79) (lb:=#[.pointer (some ⟨w.heap.size+1+1+1+1,0,none⟩)]) rfl trivial (enters_of Tryd.func79 (by kernel_rfl) rfl) ?_;intro fn _;generalize hrec:qEu fn _ _ _ _ _=rec;obtain⟨Wb,hWb⟩:=eX ((w0.alloc (.deferred (some []))).alloc (.loop (rec .ready none)));rw[hWb];have hzb:Wb.heap.size=w.heap.size+7:=by rw[<-hWb];simp[hz0]
 have hJ0:Frm Wb Wb [w.heap.size+3,w.heap.size+6]:=⟨rfl,rfl,rfl,Nat.le_refl _,fun _ _ _=>rfl⟩;have hlb:Wb.heap[w.heap.size+6]? =some (.loop (rec .ready none)):=by
  rw[<-hWb];have:=World.alloc_heap_new (w0.alloc (.deferred (some []))) (.loop (rec .ready none));rw[World.size_alloc,hz0]at this;exact this
 have hDb:Wb.heap[w.heap.size+5]? =some (.deferred (some [])):=by
  rw[<-hWb];have:=World.alloc_heap_new w0 (.deferred (some []));rw[hz0]at this;exact(Below.heap_alloc _ _ _ (by simp[hz0])).trans this
 have hold:∀k,k<w.heap.size+5->Wb.heap[k]? =w0.heap[k]? :=by
  intro k hk;rw[<-hWb];exact(Below.heap_alloc _ _ _ (by simp[hz0];omega)).trans (Below.heap_alloc _ _ _ (by omega))
 obtain⟨h2b,h3b,h4b,hTb,hsb⟩:Boxed Wb w.heap.size 49 (.slice none 0 0)/\Boxed Wb (w.heap.size+1) 3 (.int .i64 0)/\Boxed Wb (w.heap.size+2) 36 (.int .i64 0)/\Boxed Wb (w.heap.size+3) 49 (.slice none 0 0)/\Boxed Wb (w.heap.size+4) 9 (.string s):=by
  have h5:=qHF w (.slice none 0 0) (.int .i64 0) (.int .i64 0) (.slice none 0 0) (.string s) 49 3 36 49 9;rw[hw0]at h5;exact⟨(hold _ (by omega)).trans h5.1,(hold _ (by omega)).trans h5.2.1,(hold _ (by omega)).trans h5.2.2.1,(hold _ (by omega)).trans h5.2.2.2.1,(hold _ (by omega)).trans h5.2.2.2.2⟩
 have hwb:∀k,k<w.heap.size->Wb.heap[k]? =w.heap[k]? :=by
  intro k hk;rw[hold _ (by omega),<-hw0];exact(((((((Below.refl w.heap.size w).alloc (Nat.le_refl _) _).alloc (by simp) _).alloc (by simp;omega) _).alloc (by simp;omega) _).alloc (by simp;omega) _)).block k hk
 have hY:∀pre R t W,pre.length<s.size->TJ w.heap.size rec Wb pre R W->YieldAt Fence.wide (4-1) Tryd.prog (w.heap.size+6) #[qAI t.kind ⟨t.text.toArray⟩ t.n t.at_,.int .i64 0] W fun e W'=>
  e=.returned (.bool true)/\∃R',TJ w.heap.size rec Wb (pre++[t]) R' W'/\qKz (w.heap.size+6) (w.heap.size+3) R W W':=by
  rintro pre R t W hlen ⟨hF,hl,v,hT,hrow,rfl⟩;rw[<-hrec]at hl;refine qDU trivial hl rfl ?_;rw[hrec]at hl ⊢;unfold qAI
  gi_wp2
  have hlW:w.heap.size+6<W.heap.size:=(Array.getElem?_eq_some_iff.1 hl).1;refine⟨(Below.heap_alloc _ _ _ hlW).trans hl,?_⟩;obtain⟨W2,hW2⟩:=eX (((W.alloc (.cells #[.int .i64 t.kind,.string ⟨t.text.toArray⟩,.int .i64 t.n,.int .i64 t.at_] 55)).putObj (w.heap.size+6) (.loop (rec .busy none))));rw[hW2];have hz2:W2.heap.size=W.heap.size+1:=by rw[<-hW2];simp
  have hl2:W2.heap[w.heap.size+6]? =some (.loop (rec .busy none)):=by rw[<-hW2];exact World.putObj_heap_same (by simp;omega)
  have hF2:∀k,k<W.heap.size->k≠w.heap.size+6->W2.heap[k]? =W.heap[k]? :=by
   intro k hk hne;rw[<-hW2];exact(World.putObj_heap_other hne).trans (Below.heap_alloc _ _ _ hk)
  have hc2:W2.heap[W.heap.size]? =some (.cells #[.int .i64 t.kind,.string ⟨t.text.toArray⟩,.int .i64 t.n,.int .i64 t.at_] 55 (0,0)):=by
   rw[<-hW2];exact(World.putObj_heap_other (by omega)).trans (World.alloc_heap_new _ _)
  have hT2:Boxed W2 (w.heap.size+3) 49 v:=(hF2 _ (by have:=hT.lt;omega) (by omega)).trans hT;have hrow2:W2.ownsRow (w.heap.size+7) 55 4 v pre.length (qBQ pre):=by
   rw[<-hW2];exact ownsRow_putObj (hrow.alloc _) _ ((Below.heap_alloc _ _ _ hlW).trans hl) rfl
  have q0:=(cell_of_row W2 W.heap.size 0 _ _ _ hc2);have q1:=(cell_of_row W2 W.heap.size 1 _ _ _ hc2);have q2:=(cell_of_row W2 W.heap.size 2 _ _ _ hc2);have q3:=(cell_of_row W2 W.heap.size 3 _ _ _ hc2);have qT:=hT2.cell;simp at q0 q1 q2 q3;have HF2:=hZ hF2;have Hc2:=hZ hc2;have HT2:=hZ hT2;have Hl2:=hZ hl2;have Hz2:=hZ hz2;have Hrow:=hZ hrow;have HT:=hZ hT;have HF:=hZ hF;have HW2:=hZ hW2.symm;have hT2':=hZ hT2;clear hF2 hc2 hT2 hl2 hW2 hrow hT hF hl hz2;obtain⟨i0,hi,hz0',hz1,hz2'⟩:=info_parts qKk
  gi_wp2_with (gi_at_builtin;refine wpListIn_append_own _ rfl _ _ 49 rfl (w.heap.size+7) 55 i0 (.agg #[.int .i64 0,.string ⟨#[]⟩,.int .i64 0,.int .i64 0]) 4 40 Tryd.underlying49 hi hz0' hz1 hz2' rfl (by decide) _ _ _ rfl (hrow2.alloc _) ⟨W2.heap.size,0,none⟩ 1 1 (qBn t) rfl rfl (qF0 _ (qBn t) _) (by simp[Value.oneCell',qBn]) (by unfold maxLen;omega) (by omega) (by have:=Hz2.o;simp;omega) ?_;intro v' w1 hown' hgrow _;obtain⟨g',cap',rfl⟩:=ownsRow_succ hown';have hv1:=(HT2.o.alloc (.cells (qBn t).toArray 55)).kept hgrow (HT2.o.not_row (by decide) hrow2);have hc1:=hv1.cell;have hf1:=hv1.frozen;have Hv1:=hZ hv1;have Hgrow:=hZ hgrow;have Hown:=hZ hown';clear hv1 hgrow hown')
  have hgr:(W2.alloc (.cells (qBn t).toArray 55)).grownBy w1 v.ownBlock:=Hgrow.o;obtain⟨r1,r2,r3⟩:=qJ8 w.heap.size rec Wb W W2 w1 v _ pre t _ _ HF.o hzb HW2.o hlW hT2'.o hrow2 hgr Hown.o;exact⟨r1,rfl,⟨_,r2⟩,r3⟩
 have hYe:∀pre R a b c (k:Nat) er W,TJ w.heap.size rec Wb pre R W->(er=2\/er=4)->YieldAt Fence.wide (4-1) Tryd.prog (w.heap.size+6) #[qAI a b c k,.int .i64 er] W fun e W'=>
  e=.returned (.bool false)/\TX w.heap.size rec Wb k er W':=by
  rintro pre R a b c k er W ⟨hF,hl,v,hT,hrow,rfl⟩ her;rw[<-hrec]at hl;refine qDU trivial hl rfl ?_;rw[hrec]at hl ⊢;unfold qAI
  gi_wp2
  have hlW:w.heap.size+6<W.heap.size:=(Array.getElem?_eq_some_iff.1 hl).1;refine⟨(Below.heap_alloc _ _ _ hlW).trans hl,?_⟩;obtain⟨W2,hW2⟩:=eX (((W.alloc (.cells #[.int .i64 a,.string b,.int .i64 c,.int .i64 k] 55)).putObj (w.heap.size+6) (.loop (rec .busy none))));rw[hW2];have hz2:W2.heap.size=W.heap.size+1:=by rw[<-hW2];simp
  have hl2:W2.heap[w.heap.size+6]? =some (.loop (rec .busy none)):=by rw[<-hW2];exact World.putObj_heap_same (by simp;omega)
  have hF2:∀k,k<W.heap.size->k≠w.heap.size+6->W2.heap[k]? =W.heap[k]? :=by
   intro k hk hne;rw[<-hW2];exact(World.putObj_heap_other hne).trans (Below.heap_alloc _ _ _ hk)
  have hc2:W2.heap[W.heap.size]? =some (.cells #[.int .i64 a,.string b,.int .i64 c,.int .i64 k] 55 (0,0)):=by
   rw[<-hW2];exact(World.putObj_heap_other (by omega)).trans (World.alloc_heap_new _ _)
  have e2:Boxed W2 w.heap.size 49 (.slice none 0 0):=(hF2 _ (by omega) (by omega)).trans ((hF.2.2.2.2 _ (by omega) (by simp)).trans h2b);have e3:Boxed W2 (w.heap.size+1) 3 (.int .i64 0):=(hF2 _ (by omega) (by omega)).trans ((hF.2.2.2.2 _ (by omega) (by simp)).trans h3b);have e4:Boxed W2 (w.heap.size+2) 36 (.int .i64 0):=(hF2 _ (by omega) (by omega)).trans ((hF.2.2.2.2 _ (by omega) (by simp)).trans h4b);have q3:=(cell_of_row W2 W.heap.size 3 _ _ _ hc2);have c2:=e2.cell;have c3:=e3.cell;have c4:=e4.cell;have f2:=e2.frozen;have f3:=e3.frozen;have f4:=e4.frozen;have hne:((er:Int) != 0)=true:=by rw[bne_iff_ne];omega
  simp at q3;have HF:=hZ hF;have He2:=hZ e2;have He3:=hZ e3;have He4:=hZ e4;have HF2:=hZ hF2;have Hl2:=hZ hl2;have Hz2:=hZ hz2;have HW2:=hZ hW2.symm;clear hF2 hc2 hl2 hW2 hrow hT hF hl hz2 e2 e3 e4 her
  gi_wp2
  gi_region
  all_goals gi_wp2
  all_goals
   refine qJ7 w.heap.size rec Wb W W2 _ _ _ _ _ _ k er _ HF.o hzb HW2.o hlW He2.o He3.o He4.o ?_;simp
 have hnow:=qKw 4 (by omega) s (by omega) (w.heap.size+6) (w.heap.size+3) (w.heap.size+4) (w.heap.size+7) (TJ w.heap.size rec Wb) (TX w.heap.size rec Wb)
  (fun _ _ _ _ h hb=>h.below hb) (fun _ _ _ _ h hb=>h.below hb) ?hR (by omega) hY hYe Wb ⟨hJ0,hlb,_,hTb,World.ownsRow_nil _ _ _ _,rfl⟩
 case hR=>
  rintro pre R W ⟨hF,hl,v,hT,hrow,rfl⟩;have hWb2:∀k,k<w.heap.size->W.heap[k]? =w.heap[k]? :=fun k hk=>(hF.2.2.2.2 k (by omega) (by simp;omega)).trans (hwb k hk);refine⟨fun r e=>hrow.lt r e,by have:=hF.2.2.2.1;omega,?_,?_⟩
  ·intro k hk
   exact(World.cell?_of_block (w:=w) (hWb2 _ HK.o.lt)).trans (HK.o k hk)
  ·have:Boxed W (w.heap.size+4) 9 (.string s):=(hF.2.2.2.2 _ (by omega) (by simp)).trans hsb
   exact this.cell
 clear hY hYe hrec;rw[hz0];refine hnow.mono ?_;clear hnow;rintro e W3 ⟨hv,hE⟩;refine⟨hv,?_⟩;clear hv;have Hlx:Hid (lxs s=lx s.size s.data.toList):=hZ (by unfold lxs;rw[if_neg (by omega)]);unfold qJ6 at hE;cases hx:lx s.size s.data.toList with
 |ok ts=>
  rw[hx]at hE;obtain⟨R,hF,hl,v,hT,hrow,rfl⟩:=hE;refine .inl ⟨hl,?_⟩;have hl':w.heap.size+5+1<W3.heap.size:=(Array.getElem?_eq_some_iff.1 hl).1;obtain⟨W4,hW4⟩:=eX (W3.putObj (w.heap.size+5+1) (.loop (rec .exhausted none)));rw[hW4];have hz4:W4.heap.size=W3.heap.size:=by rw[<-hW4];simp
  have hF4:∀k,k≠w.heap.size+6->W4.heap[k]? =W3.heap[k]? :=fun k hk=>by rw[<-hW4];exact World.putObj_heap_other hk
  have e2:Boxed W4 w.heap.size 49 (.slice none 0 0):=(hF4 _ (by omega)).trans ((hF.2.2.2.2 _ (by omega) (by simp)).trans h2b);have e3:Boxed W4 (w.heap.size+1) 3 (.int .i64 0):=(hF4 _ (by omega)).trans ((hF.2.2.2.2 _ (by omega) (by simp)).trans h3b);have e4:Boxed W4 (w.heap.size+2) 36 (.int .i64 0):=(hF4 _ (by omega)).trans ((hF.2.2.2.2 _ (by omega) (by simp)).trans h4b);have eT:Boxed W4 (w.heap.size+3) 49 v:=(hF4 _ (by omega)).trans hT;have hD:W4.heap[w.heap.size+5]? =some (.deferred (some [])):=(hF4 _ (by omega)).trans ((hF.2.2.2.2 _ (by omega) (by simp)).trans hDb);have hrow4:W4.ownsRow (w.heap.size+7) 55 4 v ts.length (qBQ ts):=by rw[<-hW4];exact ownsRow_putObj hrow _ hl rfl
  have hB4:Below w.heap.size w W4:=⟨by rw[<-hW4];exact hF.1.trans (by rw[<-hWb,<-hw0];rfl),by rw[<-hW4];exact hF.2.1.trans (by rw[<-hWb,<-hw0];rfl),by rw[<-hW4];exact hF.2.2.1.trans (by rw[<-hWb,<-hw0];rfl),by omega,fun k hk=>(hF4 k (by omega)).trans ((hF.2.2.2.2 k (by omega) (by simp;omega)).trans (hwb k hk))⟩;have c2:=e2.cell;have c3:=e3.cell;have c4:=e4.cell;have cT:=eT.cell;have f2:=e2.frozen;have f3:=e3.frozen;have f4:=e4.frozen;have HB4:=hZ hB4;have He2:=hZ e2;have He3:=hZ e3;have He4:=hZ e4;have HD:=hZ hD;have Hrow4:=hZ hrow4;have Hx:=hZ hx;clear hx hrow4 hD e2 e3 e4 eT hB4 hF hl hT hrow hl' hF4 hz4 hW4 hWb hJ0 hlb hDb hold h2b h3b h4b hTb hsb hwb hzb;obtain⟨a0,ln,cp,rfl⟩:∃a0 ln cp,v=.slice a0 ln cp:=by
   rcases Hrow4.o.2 with ⟨h,_⟩|⟨g,cap,cur,h,_⟩
   ·exact⟨_,_,_,h⟩
   ·exact⟨_,_,_,h⟩
  gi_wp2
  obtain⟨X,hX⟩:=eX ((((W4.setCell ⟨w.heap.size,0,none⟩ (Value.slice a0 ln cp)).setCell ⟨w.heap.size+1,0,none⟩ (.int .i64 0)).setCell ⟨w.heap.size+1+1,0,none⟩ (.int .i64 0)));rw[hX];have hXk:∀k,k≠w.heap.size->k≠w.heap.size+1->k≠w.heap.size+2->X.heap[k]? =W4.heap[k]? :=by
   intro k k1 k2 k3;rw[<-hX];exact(Below.heap_setCell _ ⟨w.heap.size+2,0,none⟩ _ _ k3).trans ((Below.heap_setCell _ ⟨w.heap.size+1,0,none⟩ _ _ k2).trans (Below.heap_setCell _ ⟨w.heap.size,0,none⟩ _ _ k1))
  have x2:Boxed X w.heap.size 49 (.slice a0 ln cp):=by rw[<-hX];exact((He2.o.set _).other (by omega) _).other (by omega) _
  have x3:Boxed X (w.heap.size+1) 3 (.int .i64 0):=by rw[<-hX];exact((He3.o.other (by omega) _).set _).other (by omega) _
  have x4:Boxed X (w.heap.size+1+1) 36 (.int .i64 0):=by rw[<-hX];exact((He4.o.other (by omega) _).other (by omega) _).set _
  have xD:=(hXk (w.heap.size+5) (by omega) (by omega) (by omega)).trans HD.o;have hsX:X.os=W4.os/\X.tape=W4.tape/\X.output=W4.output/\X.heap.size=W4.heap.size:=by
   rw[<-hX];exact⟨rfl,rfl,rfl,by rw[qAp,qAp,qAp]⟩
  refine⟨by simp,.inl ⟨_,_,rfl,run_takeDeferred xD,?_⟩⟩;obtain⟨Y,hY⟩:=eX (X.putObj (w.heap.size+5) (.deferred none));rw[hY];have hYk:∀k,k≠w.heap.size+5->Y.heap[k]? =X.heap[k]? :=fun k hk=>by rw[<-hY];exact World.putObj_heap_other hk
  have y2:Boxed Y w.heap.size 49 (.slice a0 ln cp):=(hYk _ (by omega)).trans x2;have y3:Boxed Y (w.heap.size+1) 3 (.int .i64 0):=(hYk _ (by omega)).trans x3;have y4:Boxed Y (w.heap.size+1+1) 36 (.int .i64 0):=(hYk _ (by omega)).trans x4;have d2:=y2.cell;have d3:=y3.cell;have d4:=y4.cell;refine⟨.tuple #[.slice a0 ln cp,.int .i64 0,.int .i64 0],by simp[results,Tryd.results22,go_sem,d2,d3,d4],?_,.inl ⟨ts,_,by rw[Hlx.o,Hx.o],?_,rfl,?_⟩⟩
  ·refine HB4.o.trans ⟨?_,?_,?_,?_,fun k hk=>(hYk k (by omega)).trans (hXk k (by omega) (by omega) (by omega))⟩
   ·rw[<-hY];exact hsX.1
   ·rw[<-hY];exact hsX.2.1
   ·rw[<-hY];exact hsX.2.2.1
   ·rw[<-hY,World.putObj_size];omega
  ·have:=qEe s.size _ _ _ (Nat.le_refl _) Hx.o;simpa using this
  ·rw[<-hY]
   refine ownsRow_putObj (qFI (base:=w.heap.size+7) (by omega) ?_) _ xD rfl;refine⟨Hrow4.o.1,?_⟩;rcases Hrow4.o.2 with h|⟨g,cap,cur,hv,hb,hgb,rest⟩
   ·exact .inl h
   ·exact .inr ⟨g,cap,cur,hv,hb,(hXk g (by omega) (by omega) (by omega)).trans hgb,rest⟩
 |error x=>
  obtain⟨k,er⟩:=x;rw[hx]at hE;obtain⟨hF,hl,e2,e3,e4⟩:=hE;refine .inr ⟨hl,?_⟩;have hl':w.heap.size+5+1<W3.heap.size:=(Array.getElem?_eq_some_iff.1 hl).1;obtain⟨W4,hW4⟩:=eX (W3.putObj (w.heap.size+5+1) (.loop (rec .exhausted (some .ret))));rw[hW4];have hz4:W4.heap.size=W3.heap.size:=by rw[<-hW4];simp
  have hF4:∀k,k≠w.heap.size+6->W4.heap[k]? =W3.heap[k]? :=fun k hk=>by rw[<-hW4];exact World.putObj_heap_other hk
  have hD:W4.heap[w.heap.size+5]? =some (.deferred (some [])):=(hF4 _ (by omega)).trans ((hF.2.2.2.2 _ (by omega) (by simp)).trans hDb);have hB4:Below w.heap.size w W4:=⟨by rw[<-hW4];exact hF.1.trans (by rw[<-hWb,<-hw0];rfl),by rw[<-hW4];exact hF.2.1.trans (by rw[<-hWb,<-hw0];rfl),by rw[<-hW4];exact hF.2.2.1.trans (by rw[<-hWb,<-hw0];rfl),by omega,fun k hk=>(hF4 k (by omega)).trans ((hF.2.2.2.2 k (by omega) (by simp;omega)).trans (hwb k hk))⟩;refine⟨by simp,.inl ⟨_,_,rfl,run_takeDeferred hD,?_⟩⟩;obtain⟨Y,hY⟩:=eX (W4.putObj (w.heap.size+5) (.deferred none));rw[hY];have hYk:∀k,k≠w.heap.size+5->Y.heap[k]? =W4.heap[k]? :=fun k hk=>by rw[<-hY];exact World.putObj_heap_other hk
  have y2:Boxed Y w.heap.size 49 (.slice none 0 0):=(hYk _ (by omega)).trans ((hF4 _ (by omega)).trans e2);have y3:Boxed Y (w.heap.size+1) 3 (.int .i64 k):=(hYk _ (by omega)).trans ((hF4 _ (by omega)).trans e3);have y4:Boxed Y (w.heap.size+1+1) 36 (.int .i64 er):=(hYk _ (by omega)).trans ((hF4 _ (by omega)).trans e4);have d2:=y2.cell;have d3:=y3.cell;have d4:=y4.cell;refine⟨.tuple #[.slice none 0 0,.int .i64 k,.int .i64 er],by simp[results,Tryd.results22,go_sem,d2,d3,d4],?_,.inr ⟨k,er,by rw[Hlx.o,hx],rfl,(qJY s.size _ _ k er (Nat.le_refl _) hx).1⟩⟩;exact hB4.trans ⟨by rw[<-hY];rfl,by rw[<-hY];rfl,by rw[<-hY];rfl,by rw[<-hY,World.putObj_size];omega,fun k hk=>hYk k (by omega)⟩
theorem qF9(s:ByteArray)(w:World)(hs:8192<s.size)(hs':s.size<=4611686018427387904):
 Calls Tryd.prog 22 #[.string s] w (qGE 55 s w):=by
 go_enter Tryd.func22,Tryd.ntmps22
 go_wp2
 refine bodyPost_ret (v:=.tuple #[.slice none 0 0,.int .i64 0,.int .i64 4]) (by simp[results,Tryd.results22,go_sem]) rfl ⟨(aR.alloc (by simp) _).alloc (by simp;omega) _,.inr ⟨0,4,by unfold lxs;rw[if_pos hs],rfl,.inr rfl⟩⟩
theorem qEA(s:ByteArray)(w:World)(hs':s.size<=4611686018427387904)(hK:qA2 w):
 Calls Tryd.prog 22 #[.string s] w (qGE 55 s w):=by
 by_cases h:8192<s.size
 ·exact qF9 s w h hs'
 ·exact callsIn_wide.1 (qHP s w (by omega) hK)
open Go.RowKit
def sv8(x:Bs):Value:=.string ⟨x.toArray⟩
def KpX(X:List TypeId)(w w':World):Prop:=∀(e:TypeId) (cs:Array Value) (b:Nat),e∉X->w.heap[b]? =some (.cells cs e (0,0))->w'.heap[b]? =some (.cells cs e (0,0))
theorem KpX.refl(X:List TypeId)(w:World):KpX X w w:=fun _ _ _ _ h=>h
theorem KpX.trans{X:List TypeId}{w w' w2:World}(h:KpX X w w')(h':KpX X w' w2):KpX X w w2:=fun e cs b he hb=>h' e cs b he (h e cs b he hb)
theorem KpX.mono{X Y:List TypeId}{w w':World}(h:KpX X w w')(hs:∀e∈X,e∈Y):KpX Y w w':=fun e cs b he hb=>h e cs b (fun hx=>he (hs e hx)) hb
theorem qAq{w:World}{b:Nat}{o:Obj}(h:w.heap[b]? =some o):b<w.heap.size:=(Array.getElem?_eq_some_iff.1 h).1
theorem KpX.of_below{X:List TypeId}{w w':World}(h:Below w.heap.size w w'):KpX X w w':=fun e cs b _ hb=>(h.block b (qAq hb)).trans hb
theorem KpX.of_only{X:List TypeId}{S:Nat->Prop}{w w':World}(h:qAg S w w')(hS:∀b,S b->∀e cs,w.heap[b]? =some (.cells cs e (0,0))->e∈X):KpX X w w':=
 fun e cs b he hb=>(h.block b (qAq hb) (fun hs=>he (hS b hs e cs hb))).trans hb
theorem KpX.set{X:List TypeId}{w:World}{b o:Nat}{e:TypeId}{cs:Array Value}(h:w.heap[b]? =some (.cells cs e (0,0)))(he:e∈X)(v:Value):KpX X w (w.setCell ⟨b,o,none⟩ v):=by
 intro t ds c ht hc;have hne:c≠b:=by
  rintro rfl;rw[h]at hc;injection hc with hc;injection hc with _ hc;exact ht (hc▸he)
 exact(Below.heap_setCell w ⟨b,o,none⟩ v c hne).trans hc
theorem KpX.grown{X:List TypeId}{w w':World}{base k n:Nat}{e:TypeId}{v:Value}{xs:List Value}(h:w.ownsRow base e k v n xs)(hg:w.grownBy w' v.ownBlock)(he:e∈X):KpX X w w':=by
 intro t ds c ht hc;refine(hg.block c (qAq hc) (fun e1=> ?_)).trans hc;rcases h.2 with ⟨hv,_⟩|⟨g,cap,cur,hv,_,hb,_⟩
 ·rw[hv]at e1;cases e1
 ·rw[hv]at e1
  injection e1 with e1;subst e1;rw[hc]at hb;injection hb with hb;injection hb with _ hb;exact ht (hb▸he)
theorem qAa(w:World)(o:Obj):Below w.heap.size w (w.alloc o):=aR
theorem qC9(w:World)(o o':Obj):Below w.heap.size w ((w.alloc o).alloc o'):=(qAa w o).alloc (by rw[World.size_alloc];omega) _
def TSl{α:Type}(e:TypeId)(k:Nat)(R:World->α->List Value->Prop)(w:World)(v:Value)(xs:List α):Prop:=
 ∃a cap,v=.slice a xs.length cap/\xs.length<=cap/\cap<=9223372036854775807/\(xs≠[]->∃b off cs,a=some ⟨b,off,none⟩/\w.heap[b]? =some (.cells cs e (0,0))/\∀j (h:j<xs.length),∃es,R w xs[j] es/\es.length=k/\∀i,i<k->cs[off+j*k+i]? =es[i]?)
section
variable {α:Type}{e:TypeId}{k:Nat}{R:World->α->List Value->Prop}{w w':World}{v:Value}{xs:List α}
theorem TSl.nil(a:Option Addr)(cap:Nat)(hc:cap<=9223372036854775807):TSl e k R w (.slice a 0 cap) []:=⟨a,cap,rfl,Nat.zero_le _,hc,fun h=>absurd rfl h⟩
theorem TSl.form(h:TSl e k R w v xs):∃a cap,v=.slice a xs.length cap/\xs.length<=cap/\cap<=9223372036854775807:=by
 obtain⟨a,cap,h1,h2,h3,-⟩:=h;exact⟨a,cap,h1,h2,h3⟩
theorem TSl.kp{X:List TypeId}(h:TSl e k R w v xs)(hk:KpX X w w')(he:e∉X)(hR:∀x cs,R w x cs->R w' x cs):TSl e k R w' v xs:=by
 obtain⟨a,cap,h1,h2,h3,h4⟩:=h;refine⟨a,cap,h1,h2,h3,fun hx=> ?_⟩;obtain⟨b,off,cs,h5,h6,h7⟩:=h4 hx;refine⟨b,off,cs,h5,hk e cs b he h6,fun j hj=> ?_⟩;obtain⟨es,h8,h9⟩:=h7 j hj;exact⟨es,hR _ _ h8,h9⟩
theorem TSl.at_(h:TSl e k R w v xs)(j:Nat)(hj:j<xs.length):∃b off cap es,v=.slice (some ⟨b,off,none⟩) xs.length cap/\xs.length<=cap/\cap<=9223372036854775807/\b<w.heap.size/\R w xs[j] es/\es.length=k/\∀i,i<k->w.cell? ⟨b,off+j*k+i,none⟩=es[i]? :=by
 obtain⟨a,cap,rfl,h2,h3,h4⟩:=h;obtain⟨b,off,cs,rfl,h6,h7⟩:=h4 (fun e=>by rw[e]at hj;simp at hj);obtain⟨es,h8,h9,h10⟩:=h7 j hj;refine⟨b,off,cap,es,rfl,h2,h3,qAq h6,h8,h9,fun i hi=> ?_⟩;rw[cell_of_row w b _ cs e (0,0) h6,h10 i hi]
theorem TSl.tail{a:Option Addr}{n cap:Nat}{x:α}(h:TSl e k R w (.slice a n cap) (x::xs)):∃b off,a=some ⟨b,off,none⟩/\∀a',(xs≠[]->a'=some ⟨b,off+k,none⟩)->TSl e k R w (.slice a' (n-1) (cap-1)) xs:=by
 obtain⟨a1,cap1,h1,h2,h3,h4⟩:=h;injection h1 with e1 e2 e3;subst e1 e2 e3;obtain⟨b,off,cs,h5,h6,h7⟩:=h4 (by simp);refine⟨b,off,h5,fun a' ha=>⟨a',cap-1,by simp,by simp at h2;omega,by omega,fun hx=>⟨b,off+k,cs,ha hx,h6,fun j hj=> ?_⟩⟩⟩;obtain⟨es,h8,h9,h10⟩:=h7 (j+1) (by simp;omega);refine⟨es,h8,h9,fun i hi=> ?_⟩;rw[<-h10 i hi]
 congr 1
 rw[Nat.succ_mul];omega
theorem qCM:∀(css:List (List Value)) (k j i:Nat),(∀cs∈css,cs.length=k)->(hj:j<css.length)->i<k->css.flatten[j*k+i]? =css[j][i]?
 |[],_,_,_,_,hj,_=>by simp at hj
 |cs::css,k,0,i,h,_,hi=>by
  have:=h cs (by simp);rw[List.flatten_cons,List.getElem?_append_left (by omega)];simp
 |cs::css,k,j+1,i,h,hj,hi=>by
  have:=h cs (by simp);rw[List.flatten_cons,List.getElem?_append_right (by rw[Nat.succ_mul];omega),show(j+1)*k+i-cs.length=j*k+i by rw[Nat.succ_mul];omega,qCM css k j i (fun c hc=>h c (by simp[hc])) (by simpa using hj) hi];simp
theorem TSl.of_own{base n:Nat}{css:List (List Value)}(h:w.ownsRow base e k v n css.flatten)(hn:n=xs.length)(hk:∀cs∈css,cs.length=k)(hl:css.length=xs.length)
 (hR:∀j (h:j<xs.length) (h':j<css.length),R w xs[j] css[j]):TSl e k R w v xs:=by
 subst hn;rcases h.2 with ⟨hv,hx⟩|⟨g,cap,cur,hv,hb,hh,hn,hm,hs,ht⟩
 ·have:xs=[]:=List.eq_nil_of_length_eq_zero hx
  subst this;rw[hv];exact TSl.nil _ _ (by omega)
 ·refine⟨_,cap,hv,hn,by unfold maxLen at hm;exact hm,fun h0=>⟨g,0,cur,rfl,hh,fun j hj=>⟨css[j]'(by omega),hR j hj (by omega),hk _ (List.getElem_mem _),fun i hi=> ?_⟩⟩⟩
  rw[<-qCM css k j i hk (by omega) hi,<-ht,Nat.zero_add];rw[List.getElem?_take,if_pos,Array.getElem?_toList];exact Nat.lt_of_lt_of_le (show j*k+i<(j+1)*k by rw[Nat.succ_mul];omega) (Nat.mul_le_mul_right _ (by omega))
end
def qDG(e:TypeId)(w:World)(v:Value)(l:List Tok):Prop:=TSl e 4 (fun _ t cs=>cs=qBn t) w v l
theorem qDG.kp{e:TypeId}{X:List TypeId}{w w':World}{v:Value}{l:List Tok}(h:qDG e w v l)(hk:KpX X w w')(he:e∉X):qDG e w' v l:=TSl.kp h hk he (fun _ _ h=>h)
def RdB(w:World)(b:Nat)(v:Value)(N:Nat)(cs:List Value):Prop:=w.heap[b]? =some (.cells (v::.int .i64 N::cs).toArray 96 (0,0))
theorem RdB.cell{w:World}{b N:Nat}{v:Value}{cs:List Value}(h:RdB w b v N cs)(i:Nat):w.cell? ⟨b,i,none⟩=(v::Value.int .i64 N::cs)[i]? :=by
 rw[cell_of_row w b i _ _ (0,0) h];simp
theorem RdB.frozen{w:World}{b N:Nat}{v:Value}{cs:List Value}(h:RdB w b v N cs)(i:Nat):w.frozen? ⟨b,i,none⟩=false:=by
 unfold RdB at h;simp[World.frozen?,h]
theorem RdB.lt{w:World}{b N:Nat}{v:Value}{cs:List Value}(h:RdB w b v N cs):b<w.heap.size:=qAq h
theorem qDG.head{e:TypeId}{w:World}{v:Value}{t:Tok}{l:List Tok}(h:qDG e w v (t::l)):∃g off cap,v=.slice (some ⟨g,off,none⟩) (l.length+1) cap/\l.length+1<=cap/\cap<=9223372036854775807/\
 g<w.heap.size/\w.cell? ⟨g,off,none⟩=some (.int .i64 t.kind)/\w.cell? ⟨g,off+1,none⟩=some (.string ⟨t.text.toArray⟩)/\w.cell? ⟨g,off+2,none⟩=some (.int .i64 t.n)/\w.cell? ⟨g,off+3,none⟩=some (.int .i64 t.at_):=by
 obtain⟨g,off,cap,es,hv,h1,h2,hg,rfl, -,hc⟩:=TSl.at_ h 0 (by simp);simp only[Nat.zero_mul,Nat.add_zero]at hc;exact⟨g,off,cap,hv,h1,h2,hg,hc 0 (by omega),hc 1 (by omega),hc 2 (by omega),hc 3 (by omega)⟩
theorem qEh(b N:Nat)(v:Value)(cs:List Value)(l:List Tok)(k:Int)(s:Bs)(w:World)(hb:RdB w b v N cs)(ht:qDG 55 w v l):
 Calls Tryd.prog 70 #[.pointer (some ⟨b,0,none⟩),.int .i64 k,.string ⟨s.toArray⟩] w fun e w'=>e=.returned (.bool (isT k s l))/\w'=w:=by
 have c0:w.cell? ⟨b,0,none⟩=some v:=hb.cell 0;cases l with
 |nil=>
  obtain⟨a,cap,rfl,h1,h2⟩:=ht.form;clear hb ht
  go_enter Tryd.func70,Tryd.ntmps70
  go_wp2_with fail
  go_ret;exact⟨rfl,rfl⟩
 |cons t l=>
  obtain⟨g,off,cap,rfl,h1,h2,hg,t0,t1,t2,t3⟩:=ht.head;have hE:Hid (isT k s (t::l)=(t.kind==k && (s.isEmpty||t.text==s))):=hZ rfl;clear hb ht
  go_enter Tryd.func70,Tryd.ntmps70
  go_wp2_with fail
  all_goals
   go_ret;refine⟨?_,rfl⟩;rw[hE.o];simp[*]
theorem qK1(a b d:Value)(c:Int)(w:World):(Instr.field 55 (.agg #[a,b,.int .i64 c,d]) 2).run Tryd.prog w=.ok (.int .i64 c) w:=by kernel_rfl
def qKn(N:Nat)(l:List Tok):PanicEntry:={ v:=.iface 92 (.agg #[.int .i64 (qKX N l)]),recovered:=false }
theorem qDS(b N:Nat)(v:Value)(cs:List Value)(l:List Tok)(w:World)(hb:RdB w b v N cs)(ht:qDG 55 w v l):
 Calls Tryd.prog 71 #[.pointer (some ⟨b,0,none⟩)] w fun e w'=>e=.panicked [qKn N l]/\w'=w:=by
 have c0:w.cell? ⟨b,0,none⟩=some v:=hb.cell 0;have c1:w.cell? ⟨b,1,none⟩=some (.int .i64 N):=hb.cell 1;cases l with
 |nil=>
  obtain⟨a,cap,rfl,h1,h2⟩:=ht.form;clear hb ht
  go_enter Tryd.func71,Tryd.ntmps71
  go_wp2_with fail
  exact⟨rfl,rfl,rfl⟩
 |cons t l=>
  obtain⟨g,off,cap,rfl,h1,h2,hg,t0,t1,t2,t3⟩:=ht.head;clear hb ht
  go_enter Tryd.func71,Tryd.ntmps71
  go_wp2_with fail
  exact⟨rfl,rfl,rfl⟩
def qGF(b N:Nat)(w w':World)(l:List Tok)(cs:List Value):Prop:=(∃v,RdB w' b v N cs/\qDG 55 w' v l)/\qAg (fun k=>k=b) w w'
def qGG(b N:Nat)(w w':World)(l:List Tok)(e:Ending):Prop:=e=.panicked [qKn N l]/\qAg (fun k=>k=b) w w'
def qEW(t:Tok):Value:=.agg #[.int .i64 t.kind,.string ⟨t.text.toArray⟩,.int .i64 t.n,.int .i64 t.at_]
theorem RdB.set0{w:World}{b N:Nat}{v:Value}{cs:List Value}(h:RdB w b v N cs)(u:Value):RdB (w.setCell ⟨b,0,none⟩ u) b u N cs:=by
 unfold RdB at h ⊢;simp[World.setCell,Array.getElem?_modify,h]
theorem RdB.kpx{w:World}{b N:Nat}{v:Value}{cs:List Value}(h:RdB w b v N cs){w':World}(ho:qAg (fun k=>k=b) w w'):KpX [96] w w':=
 KpX.of_only ho (fun c hc e cs hh=>by
  subst hc;unfold RdB at h;rw[h]at hh;injection hh with hh;injection hh with _ hh;simp[hh])
theorem RdB.next{w:World}{b N:Nat}{a:Option Addr}{n cap:Nat}{cs:List Value}{t:Tok}{l:List Tok}(h:RdB w b (.slice a n cap) N cs)(ht:qDG 55 w (.slice a n cap) (t::l)):
 ∃g off,a=some ⟨g,off,none⟩/\n=l.length+1/\∀a',(l≠[]->a'=some ⟨g,off+4,none⟩)->qGF b N w (w.setCell ⟨b,0,none⟩ (.slice a' (n-1) (cap-1))) l cs:=by
 obtain⟨g,off,ha,hk⟩:=TSl.tail ht;obtain⟨a9,c9,e9,-⟩:=ht.form;injection e9 with _ e9 _;refine⟨g,off,ha,by simpa using e9,fun a' ha'=>⟨⟨_,h.set0 _,?_⟩,(qAg.refl (fun k=>k=b) w).set (p:=⟨b,0,none⟩) rfl _⟩⟩;exact(hk a' ha').kp (KpX.set (X:=[96]) h (by simp) _) (by decide) (fun _ _ h=>h)
theorem RdB.below{w w':World}{b N:Nat}{v:Value}{cs:List Value}(h:RdB w b v N cs)(hb:Below w.heap.size w w'):RdB w' b v N cs:=(hb.block b h.lt).trans h
theorem qDG.below{e:TypeId}{w w':World}{v:Value}{l:List Tok}(h:qDG e w v l)(hb:Below w.heap.size w w'):qDG e w' v l:=h.kp (KpX.of_below (X:=[]) hb) (by simp)
theorem qGF.below{b N:Nat}{w w1 w':World}{l:List Tok}{cs:List Value}(h:qGF b N w1 w' l cs)(hb:Below w.heap.size w w1):qGF b N w w' l cs:=⟨h.1,(qAg.of_below hb).trans h.2⟩
theorem qGF.after{b N:Nat}{w w1 w':World}{l:List Tok}{cs:List Value}(h:qGF b N w w1 l cs)(hb:Below w1.heap.size w1 w'):qGF b N w w' l cs:=by
 obtain⟨⟨v,h1,h2⟩,h3⟩:=h;exact⟨⟨v,h1.below hb,h2.below hb⟩,h3.trans (qAg.of_below hb)⟩
theorem qGG.below{b N:Nat}{w w1 w':World}{l:List Tok}{e:Ending}(h:qGG b N w1 w' l e)(hb:Below w.heap.size w w1):qGG b N w w' l e:=⟨h.1,(qAg.of_below hb).trans h.2⟩
theorem qAK(b N:Nat)(v:Value)(cs:List Value)(l:List Tok)(k:Int)(s:Bs)(w:World)(hb:RdB w b v N cs)(ht:qDG 55 w v l):
 Calls Tryd.prog 72 #[.pointer (some ⟨b,0,none⟩),.int .i64 k,.string ⟨s.toArray⟩] w fun e w'=>
  (∃t l',qAR k s l=.ok (t,l')/\e=.returned (qEW t)/\qGF b N w w' l' cs)\/(∃z,qAR k s l=.error z/\qGG b N w w' z e):=by
 have hB:Below w.heap.size w (w.alloc (.cells #[.int .i64 0,.string ⟨#[]⟩,.int .i64 0,.int .i64 0] 55)):=aR;have HI:=hZ (qEh b N v cs l k s _ (hb.below hB) (ht.below hB));have HF:=hZ (qDS b N v cs l _ (hb.below hB) (ht.below hB));clear hB;by_cases hi:isT k s l=true
 ·cases l with
  |nil=>cases hi
  |cons t l=>
   have c0:w.cell? ⟨b,0,none⟩=some v:=hb.cell 0;have f0:=hb.frozen 0;have hlt:=hb.lt;have HRb:=hZ hb;have HTk:=hZ ht;obtain⟨g,off,cap,rfl,h1,h2,hg,t0,t1,t2,t3⟩:=ht.head;have HT:Hid (qAR k s (t::l)=.ok (t,l)):=hZ (by have h9:t.is k s=true:=hi;simp only[qAR,if_pos h9]);rw[hi]at HI;clear hb ht HF hi
   go_enter Tryd.func72,Tryd.ntmps72
   go_wp2_with fail
   refine HI.o.mono ?_;rintro e w' ⟨rfl,rfl⟩
   go_wp2_with fail
   all_goals
    refine bodyPost_ret (v:=qEW t) (by simp[results,Tryd.results72,go_sem,qEW]) rfl (.inl ⟨t,l,HT.o,rfl,?_⟩);obtain⟨g',off',e9, -,hk⟩:=HRb.o.next HTk.o;injection e9 with e9;injection e9 with e9 e8;subst e9 e8
    first
     |exact(hk _ (fun _=>rfl)).after (qC9 _ _ _)
     |(have hc:cap-1=0:=(by omega);rw[hc]at hk;exact(hk _ (fun hl=>absurd (List.eq_nil_of_length_eq_zero (by omega)) hl)).after (qC9 _ _ _))
 ·have HT:Hid (qAR k s l=.error l):=hZ (by rw[qGi,if_neg hi])
  rw[Bool.not_eq_true]at hi;rw[hi]at HI;clear hb ht hi
  go_enter Tryd.func72,Tryd.ntmps72
  go_wp2_with fail
  refine HI.o.mono ?_;rintro e w' ⟨rfl,rfl⟩
  go_wp2_with fail
  refine HF.o.mono ?_;rintro e w' ⟨rfl,rfl⟩
  go_wp2_with fail
  exact⟨rfl,.inr ⟨l,HT.o,rfl,qAg.of_below aR⟩⟩
def qIT(s:Bs)(l:List Tok):List Tok:=if isT 2 s l then l.drop 1 else l
theorem qCy(b N:Nat)(v:Value)(cs:List Value)(l:List Tok)(s:Bs)(w:World)(hb:RdB w b v N cs)(ht:qDG 55 w v l):
 Calls Tryd.prog 102 #[.pointer (some ⟨b,0,none⟩),.string ⟨s.toArray⟩] w fun e w'=>
  e=.returned (.bool (isT 2 s l))/\qGF b N w w' (qIT s l) cs:=by
 have HI:=hZ (qEh b N v cs l 2 s _ hb ht);have HRb:=hZ hb;have HTk:=hZ ht;by_cases hi:isT 2 s l=true
 ·cases l with
  |nil=>cases hi
  |cons t l=>
   have c0:w.cell? ⟨b,0,none⟩=some v:=hb.cell 0;have f0:=hb.frozen 0;have hlt:=hb.lt;obtain⟨g,off,cap,rfl,h1,h2,hg,t0,t1,t2,t3⟩:=ht.head;have HT:=hZ hi;rw[hi]at HI;clear hb ht hi
   go_enter Tryd.func102,Tryd.ntmps102
   go_wp2_with fail
   refine HI.o.mono ?_;rintro e w' ⟨rfl,rfl⟩
   go_wp2_with fail
   all_goals
    go_ret;refine⟨by rw[HT.o];rfl,?_⟩;unfold qIT;rw[HT.o,if_pos rfl];rw[List.drop_succ_cons,List.drop_zero];obtain⟨g',off',e9, -,hk⟩:=HRb.o.next HTk.o;injection e9 with e9;injection e9 with e9 e8;subst e9 e8
    first
     |exact hk _ (fun _=>rfl)
     |(have hc:cap-1=0:=(by omega);rw[hc]at hk;exact hk _ (fun hl=>absurd (List.eq_nil_of_length_eq_zero (by omega)) hl))
 ·rw[Bool.not_eq_true]at hi
  have HT:=hZ hi;rw[hi]at HI;clear hb ht hi
  go_enter Tryd.func102,Tryd.ntmps102
  go_wp2_with fail
  refine HI.o.mono ?_;rintro e w' ⟨rfl,rfl⟩
  go_wp2_with fail
  go_ret;refine⟨by rw[HT.o];rfl,?_⟩;unfold qIT;rw[HT.o,if_neg (by simp)];exact⟨⟨v,HRb.o,HTk.o⟩,qAg.refl _ _⟩
theorem qA6(b N:Nat)(v:Value)(cs:List Value)(l:List Tok)(w:World)(hb:RdB w b v N cs)(ht:qDG 55 w v l):
 Calls Tryd.prog 69 #[.pointer (some ⟨b,0,none⟩)] w fun e w'=>
  (∃n l',qBg l=.ok (n,l')/\e=.returned (.int .i64 n)/\qGF b N w w' l' cs)\/(∃z,qBg l=.error z/\qGG b N w w' z e):=by
 have HI:=hZ (qAK b N v cs l 1 [] _ hb ht);clear hb ht
 go_enter Tryd.func69,Tryd.ntmps69
 go_wp2_with fail
 refine HI.o.mono ?_;rintro e w1 (⟨t,l',h1,rfl,hr⟩|⟨z,h1,rfl,hr⟩)
 ·have HR:=hZ hr
  have HT:Hid (qBg l=.ok (t.n,l')):=hZ (by unfold qBg;rw[h1]);clear hr h1;unfold qEW;have hf:=qK1
  go_wp2_with fail
  clear hf;go_ret;exact .inl ⟨_,_,HT.o,rfl,HR.o⟩
 ·have HR:=hZ hr
  have HT:Hid (qBg l=.error z):=hZ (by unfold qBg;rw[h1]);clear hr h1
  go_wp2_with fail
  exact⟨rfl,.inr ⟨_,HT.o,rfl,HR.o⟩⟩
def qDT(P:Program)(t e:TypeId)(k bytes:Nat):Prop:=
 P.underlying t=some (.slice e)/\∃i z,P.info? e=some i/\i.zero=some z/\i.size=k/\i.bytes=bytes/\z.cells.size=k/\0<k
theorem qDT.mk{P:Program}{t e:TypeId}{k bytes:Nat}{z:Value}(h1:P.underlying t=some (.slice e))(h2:(P.info? e).map (fun i=>(i.zero,i.size,i.bytes))=some (some z,k,bytes))(h3:z.cells.size=k)(h4:0<k):qDT P t e k bytes:=by
 obtain⟨i,hi,hz0,hz1,hz2⟩:=info_parts h2;exact⟨h1,i,z,hi,hz0,hz1,hz2,h3,h4⟩
theorem qBv{w w':World}{row:Option Nat}(h:w.grownBy w' row):qAg (fun b=>row=some b) w w':=
 ⟨h.os,h.tape,h.output,h.size,fun k hk hn=>h.block k hk (fun e=>hn e.symm)⟩
theorem qAg.own{S:Nat->Prop}{w w':World}(h:qAg S w w'){base e k n:Nat}{v:Value}{xs:List Value}(ho:w.ownsRow base e k v n xs)(hS:∀b,v.ownBlock=some b->¬S b):w'.ownsRow base e k v n xs:=by
 obtain⟨hl,ho⟩:=ho;refine⟨hl,?_⟩;rcases ho with ho|⟨g,cap,cur,hv,hb,hh,hr⟩
 ·exact .inl ho
 ·refine .inr ⟨g,cap,cur,hv,hb,?_,hr⟩
  rw[h.block g (Array.getElem?_eq_some_iff.1 hh).1 (hS g (by rw[hv];rfl))];exact hh
theorem qA5{P:Program}{W0 w:World}{ops:Array Oper}{rest:List Oper}{o:Oper}{a:Act}{Q:Exit->Act->World->Prop}{B k bytes:Nat}{t e:TypeId}(hE:qDT P t e k bytes)(hgd:o.guard=none)(s x:Operand)
 (ho:o.op=.call { callee:=.builtin .append,args:=#[s,x],argTypes:=#[t,t] })(cs:List Value)(te:TypeId)
 (v:Value)(n:Nat)(xs:List Value)(hs:a.eval s=v)(hx:a.eval x=.slice (some ⟨w.heap.size,0,none⟩) 1 1)(hcs:cs.length=k)(h1:∀u∈cs,u.oneCell'=true)
 (hown:w.ownsRow B e k v n xs)(hB:Below B W0 w)(hle:B<=w.heap.size)(hn:n<=1000000000)(hby:bytes<=1000)
 (h:∀g cap w',Hid (w'.ownsRow B e k (.slice (some ⟨g,0,none⟩) (n+1) cap) (n+1) (xs++cs))->Hid (Below B W0 w')->Hid (qAg (fun b=>v.ownBlock=some b) w w')->cap<=9223372036854775807->Hid (v.ownBlock=some g\/w.heap.size<=g)->wpList P ops Q rest (a.put o.dst (.slice (some ⟨g,0,none⟩) (n+1) cap)) w'):wpList P ops Q (o::rest) a (w.alloc (.cells cs.toArray te)):=by
 obtain⟨ht,i,z,hi,hz,hsize,hbyt,hzs,hk⟩:=hE;have hcap:(n+1)*bytes<=140737488355328:=Nat.le_trans (Nat.mul_le_mul (show n+1<=1000000001 by omega) hby) (by decide);refine wpList_append_lies (w.alloc (.cells cs.toArray te)) hgd s x t ho B e i z k bytes ht hi hz hsize hbyt hzs hk v n xs hs (hown.alloc _) ⟨w.heap.size,0,none⟩ 1 1 cs hx (by rw[Nat.one_mul];exact hcs) ?_ h1 (by omega) (by unfold maxLen;omega) hcap (by simp;omega) (w.heap.size+1) (by simp) ?_
 ·intro j u hu
  have hadd:(⟨w.heap.size,0,none⟩:Addr).add j=⟨w.heap.size,j,none⟩:=by unfold Addr.add;split<;>simp_all
  rw[hadd,cell_of_row _ w.heap.size j _ te (0,0) (heap_alloc_new w _)];simpa using hu
 ·intro g cap w' ho' hg hat hlt
  have hO:qAg (fun b=>v.ownBlock=some b) w w':=(qBv hg)|>fun h2=>⟨h2.os,h2.tape,h2.output,Nat.le_trans (by simp) h2.size,fun k hk hn=>(h2.block k (by simp;omega) hn).trans (Below.heap_alloc w _ k hk)⟩
  refine h g cap w' (hZ ho') (hZ (hO.below hB hle (fun k e=>(hown.lt k e).1))) (hZ hO) ?_ (hZ ?_)
  ·rcases ho'.2 with ⟨hv,_⟩|⟨_,_,_,hv,_,_,_,h3,_⟩
   ·cases hv
   ·injection hv with _ _ e
    unfold maxLen at h3;omega
  ·rcases hat with hat|hat
   ·exact .inl hat
   ·exact .inr (by omega)
theorem qCF{P:Program}{W0 w:World}{ops:Array Oper}{rest:List Oper}{o:Oper}{a:Act}{Q:Exit->Act->World->Prop}{B k bytes:Nat}{t e:TypeId}(hE:qDT P t e k bytes)(hgd:o.guard=none)(s x:Operand)
 (ho:o.op=.call { callee:=.builtin .append,args:=#[s,x],argTypes:=#[t,t] }) 
 (v:Value)(n:Nat)(xs:List Value)(hs:a.eval s=v)(ad:Addr)(m c:Nat)(cs:List Value)(hx:a.eval x=.slice (some ad) m c)(hcs:cs.length=m*k)(hnews:∀j u,cs[j]? =some u->w.cell? (ad.add j)=some u)(h1:∀u∈cs,u.oneCell'=true)
 (hown:w.ownsRow B e k v n xs)(hB:Below B W0 w)(hle:B<=w.heap.size)(hn:n+m<=1000000000)(hby:bytes<=1000)
 (h:∀v' w',Hid (w'.ownsRow B e k v' (n+m) (xs++cs))->Hid (Below B W0 w')->Hid (qAg (fun b=>v.ownBlock=some b) w w')->wpList P ops Q rest (a.put o.dst v') w'):wpList P ops Q (o::rest) a w:=by
 obtain⟨ht,i,z,hi,hz,hsize,hbyt,hzs,hk⟩:=hE;have hcap:(n+m)*bytes<=140737488355328:=Nat.le_trans (Nat.mul_le_mul hn hby) (by decide);refine wpList_append_own w hgd s x t ho B e i z k bytes ht hi hz hsize hbyt hzs hk v n xs hs hown ad m c cs hx hcs hnews h1 (by unfold maxLen;omega) hcap hle ?_;intro v' w' ho' hg _;have hO:=qBv hg;exact h v' w' (hZ ho') (hZ (hO.below hB hle (fun k e=>(hown.lt k e).1))) (hZ hO)
def qAy(w:World)(g:Nat)(t:TypeId)(cs:List Value):Prop:=w.heap[g]? =some (.cells cs.toArray t (0,0))
section
variable {w w':World}{g:Nat}{t:TypeId}{cs:List Value}
theorem qAy.lt(h:qAy w g t cs):g<w.heap.size:=(Array.getElem?_eq_some_iff.1 h).1
theorem qAy.cell(h:qAy w g t cs)(i:Nat):w.cell? ⟨g,i,none⟩=cs[i]? :=by
 rw[cell_of_row w g i _ t (0,0) h];simp
theorem qAy.frozen(h:qAy w g t cs)(i:Nat):w.frozen? ⟨g,i,none⟩=false:=by
 unfold qAy at h;simp[World.frozen?,h]
theorem qAy.below{B:Nat}(h:qAy w g t cs)(hb:Below B w w')(hg:g<B):qAy w' g t cs:=(hb.block g hg).trans h
theorem qAy.set(h:qAy w g t cs)(i:Nat)(u:Value):qAy (w.setCell ⟨g,i,none⟩ u) g t (cs.set i u):=by
 unfold qAy at h ⊢;simp[World.setCell,Array.getElem?_modify,h]
theorem qAy.far(h:qAy w g t cs){p:Addr}(hp:g≠p.block)(u:Value):qAy (w.setCell p u) g t cs:=(Below.heap_setCell w p u g hp).trans h
theorem qAy.drewN(h:qAy w g t cs)(n:Nat):qAy (w.drewN n) g t cs:=h
theorem qAy.drew(h:qAy w g t cs):qAy w.drew g t cs:=h
theorem qAy.alloc(h:qAy w g t cs)(o:Obj):qAy (w.alloc o) g t cs:=(Below.heap_alloc w o g h.lt).trans h
theorem qAy.new(w:World)(t:TypeId)(cs:List Value):qAy (w.alloc (.cells cs.toArray t)) w.heap.size t cs:=heap_alloc_new w _
theorem qAy.only{S:Nat->Prop}(h:qAy w g t cs)(ho:qAg S w w')(hS:¬S g):qAy w' g t cs:=(ho.block g h.lt hS).trans h
theorem qAy.of_own{base k n:Nat}{a:Option Addr}{cap:Nat}(h:w.ownsRow base t k (.slice (some ⟨g,0,none⟩) n cap) n cs)(hc:cap=n):qAy w g t cs:=by
 obtain⟨hl,ho⟩:=h;rcases ho with ⟨hv,_⟩|⟨g',cap',cur,hv,hb,hh,hn,hm,hs,ht⟩
 ·cases hv
 ·injection hv with e1 e2 e3
  injection e1 with e1;injection e1 with e1;subst e1 e3;unfold qAy;rw[hh,<-ht,List.take_of_length_le (by simp[hs,hc])]
end
theorem qIF:qDT Tryd.prog 25 3 1 8:=qDT.mk (z:=.int .i64 0) Tryd.underlying25 (by kernel_rfl) rfl (by decide)
end Go.Proofs.YtpmnbcdjoomgcaaDoor
