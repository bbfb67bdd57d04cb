/- worldmintref01.Ints: a copy of the first five numbers. -/
import Derived.Test.YtkjhlkngihponaaGreatDoorQKYLBas
import Derived.Test.YtkjhlkngihponaaGreatDoorQKGGen
import Derived.Test.YtkjhlkngihponaaGreatDoorQKGVal
import Derived.Test.YtkjhlkngihponaaGreatDoorQKLRow
import Derived.Deep.CutRange
import Derived.Test.YtkjhlkngihponaaGreatDoorQKWShiftL
import Derived.Laws.OwnMore
import Derived.Deep.AppendLies
import Derived.Test.YtkjhlkngihponaaGreatDoorQKWDivS
import Derived.Laws.AppendOwnNone
import Derived.Deep.LoopGhost
import Derived.Test.YtkjhlkngihponaaGreatDoorQKLOwn
import Derived.Test.YtkjhlkngihponaaGreatDoorQKRegFree
import Derived.Test.YtkjhlkngihponaaGreatDoorQKWDivide
import Derived.Test.YtkjhlkngihponaaGreatDoorQKStr
import Derived.Test.YtkjhlkngihponaaGreatDoorQKLSmall
import Derived.Test.YtkjhlkngihponaaGreatDoorQKWString
set_option linter.unusedVariables false
set_option linter.unusedSimpArgs false
set_option maxHeartbeats 8000000
set_option maxRecDepth 100000
namespace Go.Proofs.YtkjhlkngihponaaGreatDoor
open Go.RowKit
theorem qHj(ws:List Int)(n:Nat)(f:Nat->Int):∀k,k<=n->qCZ ws (qBO n f) k=qBI ws f k
 |0,_=>rfl
 |k+1,h=>by
  have e:(qBO n f).getD k 0=f k:=by
   rw[List.getD_eq_getElem?_getD,List.getElem?_eq_getElem (by rw[qAz];omega)];simp[qBO]
  show qCZ ws (qBO n f) k+ws.getD k 0*(qBO n f).getD k 0=qBI ws f k+ws.getD k 0*f k
  rw[qHj ws n f k (by omega),e]
theorem qBM(ws:List Int)(n:Nat)(f:Nat->Int):qFi ws n f=qBI ws f n:=by
 unfold qFi;rw[qAz];exact qHj ws n f n (Nat.le_refl _)
theorem qLP{c:Cat}{ws:List Int}:qDd c ws=true ↔ ws.length=c.items.length/\∀f∈qCH c,qBI ws f c.items.length=0:=by
 unfold qDd;rw[Bool.and_eq_true,decide_eq_true_eq,List.all_eq_true];refine and_congr_right (fun _=>⟨fun h f hf=> ?_,fun h x hx=> ?_⟩)
 ·obtain⟨x,hx,rfl⟩:=List.mem_map.1 hf
  have:=h x hx;rw[decide_eq_true_eq,qBM]at this;exact this
 ·rw[decide_eq_true_eq,qBM]
  exact h _ (List.mem_map.2 ⟨x,hx,rfl⟩)
theorem qQ1{n:Nat}{E:List (Nat->Int)}{K:List (List Int)}(h:qEt n E K):∀r∈K,B64 r:=fun r hr x hx=>by
 have:=h.top r hr x hx;unfold topE at this;omega
theorem qAf.setL{w:World}{g n:Nat}{t:TypeId}{f:Nat->Int}{tl:List Value}(h:qAf w g t (qBa n f++tl)){i:Nat}(hi:i<n)(x:Int):qAf (w.setCell ⟨g,i,none⟩ (.int .i64 x)) g t (qBa n (fun j=>if j=i then x else f j)++tl):=by
 have h9:=h.set i (.int .i64 x);rw[List.set_append_left _ _ (by rw[qB2];exact hi),qB1]at h9;exact h9
theorem qAf.atL{w:World}{g n:Nat}{t:TypeId}{f:Nat->Int}{tl:List Value}(h:qAf w g t (qBa n f++tl)){i:Nat}(hi:i<n):w.cell? ⟨g,i,none⟩=some (.int .i64 (f i)):=by
 rw[h.cell,List.getElem?_append_left (by rw[qB2];exact hi),qBC _ _ _ hi]
theorem qCq{w:World}{g n c:Nat}{f:Nat->Int}{tl:List Value}(h:qAf w g 3 (qBa n f++tl))(hn:n<=c)(hc:c<=9223372036854775807):qAg w (.slice (some ⟨g,0,none⟩) n c) (qBO n f):=by
 refine⟨some ⟨g,0,none⟩,c,by rw[qAz],by rw[qAz];exact hn,hc,fun _=>⟨g,rfl,h.lt,fun j hj=>⟨_,rfl,rfl,fun i hi=> ?_⟩⟩⟩;rw[qAz]at hj;obtain rfl:i=0:=by omega
 rw[Nat.mul_one,Nat.add_zero,h.atL hj];simp[qBO,zv]
def qFc(r:Rul)(fails:Bool):List Amt:=if fails then r.back else r.give
def qGx(b:Nat->Int)(r:Rul)(fails:Bool):Nat->Int:=fun i=>b i+qBE r.take (qFc r fails) i
theorem qBZ(w0:World)(vb:Value)(r:Rul)(p:Pl)(n:Nat)(b:Nat->Int)(fails:Bool)(hb:qAg w0 vb (qBO n b))(hr:qFf w0 r p)(hg:qD2 n r)(hbd:∀i, -1000000000<=b i/\b i<=1000000000)(hn:n<=6)(hn1:1<=n):
 Calls Tryz.prog 33 #[vb,qGu r p,.bool fails] w0 fun e w'=>(∃g c,e=.returned (.slice (some ⟨g,0,none⟩) n c)/\qAg w' (.slice (some ⟨g,0,none⟩) n c) (qBO n (qGx b r fails)))/\Below w0.heap.size w0 w':=by
 obtain⟨pat,pct,pag,pcg,pab,pcb⟩:=p;have HI:=hZ hb;obtain⟨a0,c0,rfl,q1,q2⟩:=hb.form;obtain⟨ao,co,lo,hlo⟩:∃ao co lo,lo=qFc r fails/\(fails=true->ao=pab/\co=pcb/\lo=r.back)/\(fails=false->ao=pag/\co=pcg/\lo=r.give)/\qAl w0 (.slice ao lo.length co) lo/\qAM n 1000 2 lo:=by
  cases fails
  ·exact⟨pag,pcg,r.give,rfl,fun h=>(by cases h),fun _=>⟨rfl,rfl,rfl⟩,hr.give,hg.give⟩
  ·exact⟨pab,pcb,r.back,rfl,fun _=>⟨rfl,rfl,rfl⟩,fun h=>(by cases h),hr.back,hg.back⟩
 obtain⟨hl1,hl2,hl3,hl4,hl5⟩:=hlo;have HLO:=hZ hl1;have HF1:=hZ hl2;have HF0:=hZ hl3;have HAO:=hZ hl4;have HGO:=hZ hl5;have HAT:=hZ hr.take;have HGT:=hZ hg.take;have HBD:=hZ hbd;rw[qAz]at q1 ⊢;unfold qGu;simp only[];obtain⟨lt,hlt⟩:=eX r.take;have HLT:=hZ hlt;rw[hlt]at HAT HGT ⊢;have hltl:=HGT.o.len;have hlol:=HGO.o.len;clear hb hr hg hl1 hl2 hl3 hl4 hl5 hlt hbd;obtain⟨w1,hw1⟩:=eX (w0.alloc (.cells #[.string ⟨r.name.toArray⟩,.bool r.spawn,.int .i64 0,.int .i64 r.time,.int .i64 1,.int .i64 r.of_,.slice pat lt.length pct,.slice pag r.give.length pcg,.slice pab r.back.length pcb] 54));obtain⟨br,hbr⟩:=eX w0.heap.size;have HBR:=hZ hbr;have hB1:Below w0.heap.size w0 w1:=by rw[<-hw1];exact aR
 have HRB:Hid (qAf w1 br 54 [.string ⟨r.name.toArray⟩,.bool r.spawn,.int .i64 0,.int .i64 r.time,.int .i64 1,.int .i64 r.of_,.slice pat lt.length pct,.slice pag r.give.length pcg,.slice pab r.back.length pcb]):=hZ (by rw[<-hw1,<-hbr];exact qAf.new _ _ _);have hz1:w1.heap.size=br+1:=by rw[<-hw1,<-hbr];simp
 have hown:(w1.alloc (.cells #[] 3)).ownsRow w1.heap.size 3 1 (.slice (some ⟨w1.heap.size,0,none⟩) 0 0) 0 []:=qKI w1 3 [] (by simp);have HOW:=hZ hown;have HB1:=hZ hB1;have HI1:Hid (qAg (w1.alloc (.cells #[] 3)) (.slice a0 n c0) (qBO n b)):=hZ (by have h9:=((HI.o.below hB1).below (show Below w1.heap.size w1 (w1.alloc (.cells #[] 3))from aR));rw[qAz]at h9;exact h9);have HA1:Hid (Below w1.heap.size w1 (w1.alloc (.cells #[] 3))):=hZ aR;rw[hz1]at HOW HA1;have HL1:Hid (br+1<=(w1.alloc (.cells #[] 3)).heap.size):=hZ (by simp;omega);clear hown hB1
 go_enter Tryz.func33,Tryz.ntmps33
 go_wp2_with (at_builtin;refine qFu (W0:=w1) (B:=br+1) qEP rfl _ _ rfl _ (.slice a0 n c0) 0 [] (qBO n b) rfl rfl HI1.o HOW.o HA1.o HL1.o (by rw[qAz];omega) (by omega) ?_)
 intro v' w2 ho hb hon;obtain⟨g,cap,hv',hcap1,hcap2⟩:=ho.o.form (by rw[qAz];exact hn1);subst hv';rw[qAz]at ho;obtain⟨tl,htl⟩:=qFB ho.o;have hgb:=(ho.o.lt g rfl).1;have hmz:(qBO n b).map zv=qBa n b:=by simp[qBO,qBa]
 rw[hmz]at htl;have HQ0:=hZ htl;have HB2:Hid (Below w0.heap.size w0 w2):=hZ (HB1.o.trans (hb.o.mono (by have:=HBR.o;omega)));have HRB2:Hid (qAf w2 br 54 [.string ⟨r.name.toArray⟩,.bool r.spawn,.int .i64 0,.int .i64 r.time,.int .i64 1,.int .i64 r.of_,.slice pat lt.length pct,.slice pag r.give.length pcg,.slice pab r.back.length pcb]):=hZ (HRB.o.below hb.o (by omega));have HON:Hid (qAc (fun q=>q=g) w2 w2):=hZ (qAc.refl _ _);have hcl:n<=cap/\cap<=9223372036854775807:=by
  rcases ho.o.2 with ⟨hv,_⟩|⟨g9,cap9,_,hv,_,_,h3,h4,_⟩
  ·cases hv
  ·injection hv with _ _ e
   unfold maxLen at h4;omega
 obtain⟨hcl1,hcl2⟩:=hcl;rw[qAz];clear ho hb hon htl hmz hw1 HRB HOW HI1 HA1 HL1 HI hcap1 hcap2;have m6:=HRB2.o.cell 6;simp only[List.getElem?_cons_succ,List.getElem?_cons_zero]at m6
 go_wp2_with fail
 clear m6
 go_loopw [8] (fun iv wr=>∃k:Nat,k<=lt.length/\iv=.int .i64 k/\Hid (qAf wr g 3 (qBa n (fun i=>b i-((ofI (lt.take k) i:Nat):Int))++tl))/\Hid (qAc (fun q=>q=g) w2 wr)) (fun iv _=>lt.length-(intOf iv).toNat)
 case atStart=>exact⟨0,by omega,rfl,hZ (by simpa[qAR]using HQ0.o),HON⟩
 case round=>
  clear HQ0 HON;obtain⟨k,hk,rfl,HQ,HON⟩:=hrel;obtain⟨wl,rfl⟩:=eY wr;have hBl:Below w0.heap.size w0 wl:=HON.o.below HB2.o HB2.o.size (fun q hq=>by have:=HBR.o;omega);by_cases hlt:k<lt.length
  ·have k1:(0:Int)<=(k:Int):=by omega
   have k2:(k:Int)<(lt.length:Int):=by omega
   obtain⟨b3,cap3,hv3,hb3,y0,y1⟩:=qAl.at_ (HAT.o.below hBl) k hlt;injection hv3 with e1 e2 e3;subst e1;clear e2 e3;have hit:=HGT.o.all lt[k] (List.getElem_mem hlt);have HST:=hZ (qFA lt k hlt (fun i=>b i));have hol:=qBS HGT.o lt[k].item;have hol2:=qBd lt k lt[k].item;have hbi:=HBD.o lt[k].item;have hol9:=qBS HGT.o lt[k].item;generalize lt[k]=x at *;obtain⟨xi,xn⟩:=x
   try simp only[]at hit hol hol2 y0 y1 HST hbi hol9
   obtain⟨z,hz⟩:=eX (b xi-((ofI (lt.take k) xi:Nat):Int));have hzl: -2000000000<=z/\z<=2000000000:=by omega
   have y2:wl.cell? ⟨g,xi,none⟩=some (.int .i64 z):=by rw[<-hz];exact HQ.o.atL hit.1
   have y3:=HQ.o.frozen xi;rw[hz]at HST;have hgl:=HQ.o.lt;have j1:(0:Int)<=(xi:Int):=by omega
   have j2:(xi:Int)<(n:Int):=by omega
   have hit1:=hit.1;have hbx:b3<wl.heap.size:=hb3;have HRl:=HRB2.o.only HON.o (by omega);have z6:=HRl.cell 6;simp only[List.getElem?_cons_succ,List.getElem?_cons_zero]at z6;clear hz hol hol2 hol9 hbi hBl
   go_wp2_with fail
   refine qBQ 24 (fun X=>X.cell? ⟨br,6,none⟩=some (.slice (some ⟨b3,0,none⟩) lt.length pct)/\X.cell? ⟨b3,k*2,none⟩=some (.int .i64 (xi:Int))/\X.cell? ⟨b3,k*2+1,none⟩=some (.int .i64 (xn:Int))/\X.cell? ⟨g,xi,none⟩=some (.int .i64 z)) (by kernel_rfl) (⟨z6,y0,y1,y2⟩) (fun hHeld=> ?_);refine kU 0 21 ?_;refine kU 1 22 ?_;refine kU 2 23 ?_;refine kU 3 24 ?_;refine kU 4 25 ?_;refine kU 5 26 ?_;refine kU 6 27 ?_;refine kU 7 28 ?_;refine kU 8 29 ?_;refine kU 9 30 ?_;refine kU 10 31 ?_;refine kU 11 32 ?_;refine kU 12 33 ?_;refine kU 13 34 ?_;refine kU 14 35 ?_;refine kU 15 36 ?_;refine kU 16 37 ?_;refine kU 17 38 ?_;refine kU 18 39 ?_;refine kU 19 40 ?_;refine kU 20 41 ?_;refine kU 21 42 ?_;refine kU 22 43 ?_;refine kU 23 44 ?_;obtain⟨w5,hw5⟩:=eX ((wl.setCell ⟨g,xi,none⟩ (.int .i64 (z-(xn:Int)))).drew);have HQ5:Hid (qAf w5 g 3 (qBa n (fun i=>b i-((ofI (lt.take (k+1)) i:Nat):Int))++tl)):=hZ (by
    rw[<-HST.o,<-hw5];exact(HQ.o.setL hit1 _).drew)
   have HON5:Hid (qAc (fun q=>q=g) w2 w5):=hZ (by rw[<-hw5];exact(HON.o.set (p:=⟨g,xi,none⟩) rfl _).drew);have wz1: -9223372036854775808<=z-(xn:Int):=by omega
   have wz2:z-(xn:Int)<=9223372036854775807:=by omega
   refine qFd (by kernel_rfl) rfl (by kernel_rfl) (fun K hK=> ?_);go_simp;refine hK.out _ _ ?_;clear hK K
   try simp only[Act.put,sX1,sX2,sX3]
   clear hHeld y0 y1 y2 y3 z6
   go_wp2_with fail
   try rw[hw5]
   clear hw5;go_roundw
   case rel=>exact⟨k+1,by omega,by go_num,HQ5,HON5⟩
   case measure=>simp[intOf];omega
  ·obtain rfl:k=lt.length:=by omega
   have HQ1:Hid (qAf wl g 3 (qBa n (fun i=>b i-((ofI lt i:Nat):Int))++tl)):=hZ (by have h9:=HQ.o;rw[List.take_length]at h9;exact h9);have HRl:=hZ (HRB2.o.only HON.o (by omega));have m6:=HRl.o.cell 6;have m7:=HRl.o.cell 7;have m8:=HRl.o.cell 8;simp only[List.getElem?_cons_succ,List.getElem?_cons_zero]at m6 m7 m8;clear HQ hBl
   go_upto_if 47 with fail
   go_cut [9]from 11 (fun s9 wc=>s9=.slice ao lo.length co/\wl=wc)
   case first=>
    cases fails with
    |true=>
     obtain⟨e1,e2,e3⟩:=HF1.o rfl;subst e1 e2 e3
     go_wp2_with fail
     go_meet
     case rel=>exact⟨rfl,rfl⟩
    |false=>
     obtain⟨e1,e2,e3⟩:=HF0.o rfl;subst e1 e2 e3
     go_wp2_with fail
     go_meet
     case rel=>exact⟨rfl,rfl⟩
   case rest=>
    obtain⟨rfl,rfl⟩:=hcut;clear m6 m7 m8
    go_wp2_with fail
    go_loopw [10] (fun iv wr=>∃k:Nat,k<=lo.length/\iv=.int .i64 k/\Hid (qAf wr g 3 (qBa n (fun i=>(b i-((ofI lt i:Nat):Int))+((ofI (lo.take k) i:Nat):Int))++tl))/\Hid (qAc (fun q=>q=g) w2 wr)) (fun iv _=>lo.length-(intOf iv).toNat)
    case atStart=>exact⟨0,by omega,rfl,hZ (by simpa[qAR]using HQ1.o),HON⟩
    case round=>
     clear HQ1 HON;obtain⟨k,hk,rfl,HQ,HON⟩:=hrel;obtain⟨wl',rfl⟩:=eY wr;have hBl:Below w0.heap.size w0 wl':=HON.o.below HB2.o HB2.o.size (fun q hq=>by have:=HBR.o;omega);by_cases hlt:k<lo.length
     ·have k1:(0:Int)<=(k:Int):=by omega
      have k2:(k:Int)<(lo.length:Int):=by omega
      obtain⟨b3,cap3,hv3,hb3,y0,y1⟩:=qAl.at_ (HAO.o.below hBl) k hlt;injection hv3 with e1 e2 e3;subst e1;clear e2 e3;have hit:=HGO.o.all lo[k] (List.getElem_mem hlt);have HST:=hZ (qF4 lo k hlt (fun i=>(b i-((ofI lt i:Nat):Int))));have hol:=qBS HGO.o lo[k].item;have hol2:=qBd lo k lo[k].item;have hbi:=HBD.o lo[k].item;have hol9:=qBS HGT.o lo[k].item;generalize lo[k]=x at *;obtain⟨xi,xn⟩:=x
      try simp only[]at hit hol hol2 y0 y1 HST hbi hol9
      obtain⟨z,hz⟩:=eX ((b xi-((ofI lt xi:Nat):Int))+((ofI (lo.take k) xi:Nat):Int));have hzl: -2000000000<=z/\z<=2000000000:=by omega
      have y2:wl'.cell? ⟨g,xi,none⟩=some (.int .i64 z):=by rw[<-hz];exact HQ.o.atL hit.1
      have y3:=HQ.o.frozen xi;rw[hz]at HST;have hgl:=HQ.o.lt;have j1:(0:Int)<=(xi:Int):=by omega
      have j2:(xi:Int)<(n:Int):=by omega
      have hit1:=hit.1;have hbx:b3<wl'.heap.size:=hb3;clear hz hol hol2 hol9 hbi hBl
      go_wp2_with fail
      refine qBQ 21 (fun X=>X.cell? ⟨b3,k*2,none⟩=some (.int .i64 (xi:Int))/\X.cell? ⟨b3,k*2+1,none⟩=some (.int .i64 (xn:Int))/\X.cell? ⟨g,xi,none⟩=some (.int .i64 z)) (by kernel_rfl) (⟨y0,y1,y2⟩) (fun hHeld=> ?_);refine kU 0 56 ?_;refine kU 1 57 ?_;refine kU 2 58 ?_;refine kU 3 59 ?_;refine kU 4 60 ?_;refine kU 5 61 ?_;refine kU 6 62 ?_;refine kU 7 63 ?_;refine kU 8 64 ?_;refine kU 9 65 ?_;refine kU 10 66 ?_;refine kU 11 67 ?_;refine kU 12 68 ?_;refine kU 13 69 ?_;refine kU 14 70 ?_;refine kU 15 71 ?_;refine kU 16 72 ?_;refine kU 17 73 ?_;refine kU 18 74 ?_;refine kU 19 75 ?_;refine kU 20 76 ?_;obtain⟨w5,hw5⟩:=eX ((wl'.setCell ⟨g,xi,none⟩ (.int .i64 (z+(xn:Int)))).drew);have HQ5:Hid (qAf w5 g 3 (qBa n (fun i=>(b i-((ofI lt i:Nat):Int))+((ofI (lo.take (k+1)) i:Nat):Int))++tl)):=hZ (by
       rw[<-HST.o,<-hw5];exact(HQ.o.setL hit1 _).drew)
      have HON5:Hid (qAc (fun q=>q=g) w2 w5):=hZ (by rw[<-hw5];exact(HON.o.set (p:=⟨g,xi,none⟩) rfl _).drew);have wz1: -9223372036854775808<=z+(xn:Int):=by omega
      have wz2:z+(xn:Int)<=9223372036854775807:=by omega
      refine qFd (by kernel_rfl) rfl (by kernel_rfl) (fun K hK=> ?_);go_simp;refine hK.out _ _ ?_;clear hK K
      try simp only[Act.put,sX1,sX2,sX3]
      clear hHeld y0 y1 y2 y3
      go_wp2_with fail
      try rw[hw5]
      clear hw5;go_roundw
      case rel=>exact⟨k+1,by omega,by go_num,HQ5,HON5⟩
      case measure=>simp[intOf];omega
     ·obtain rfl:k=lo.length:=by omega
      have HFI:Hid (qAg wl' (.slice (some ⟨g,0,none⟩) n cap) (qBO n (qGx b r fails))):=hZ (by
       have h9:=HQ.o;rw[List.take_length]at h9;have e:(fun i=>(b i-((ofI lt i:Nat):Int))+((ofI lo i:Nat):Int))=qGx b r fails:=by
        funext i
        unfold qGx qBE;rw[<-HLO.o,HLT.o];omega
       rw[e]at h9;exact qCq h9 hcl1 hcl2)
      clear HQ
      go_wp2_with fail
      exact bodyPost_ret (v:=.slice (some ⟨g,0,none⟩) n cap) (by simp[results,Tryz.results33,go_sem]) rfl ⟨⟨g,cap,rfl,HFI.o⟩,hBl⟩
theorem qNl(w0:World)(v:Value)(L:List Int)(h:qAg w0 v L)(h64:B64 L):
 Calls Tryz.prog 34 #[v] w0 fun e w'=>(∃z,e=.returned (.int .i64 z)/\ -9223372036854775808<=z/\z<=0/\(0<=z->∀x∈L,0<=x))/\w0=w':=by
 have H:=hZ h;have H64:=hZ h64;obtain⟨a0,c0,rfl,q1,q2⟩:=h.form;obtain⟨n,hn⟩:=eX L.length;have HN:=hZ hn;rw[hn]at q1 ⊢;clear h h64 hn
 go_enter Tryz.func34,Tryz.ntmps34
 go_wp2_with fail
 go_loop [4,3] (fun iv zv=>∃(k:Nat) (z:Int),k<=n/\iv=.int .i64 k/\zv=.int .i64 z/\ -9223372036854775808<=z/\z<=0/\Hid (∀j (h:j<L.length),j<k->z<=L[j])) (fun iv _=>n-(intOf iv).toNat)
 case atStart=>exact⟨0,0,by omega,rfl,rfl,by omega,by omega,hZ (fun j _ h=>by omega)⟩
 case round=>
  obtain⟨k,z,hk,rfl,rfl,hz1,hz2,HA⟩:=hrel;by_cases hlt:k<n
  ·have i1:(0:Int)<=(k:Int):=by omega
   have i2:(k:Int)<(n:Int):=by omega
   have hkl:k<L.length:=by have:=HN.o;omega
   obtain⟨b1,cap1,hv1,hb1,y0⟩:=qAg.at_ H.o k hkl;injection hv1 with e1 e2 e3;subst e1;clear e2 e3;have hx:=H64.o.at_ k hkl;obtain⟨x,hxx⟩:=eX (L[k]);have HX:=hZ hxx;rw[hxx]at y0 hx;clear hxx;obtain⟨m,hm⟩:=eX (min z x);have HM:=hZ hm;have hm1: -9223372036854775808<=m/\m<=0:=by omega
   have HN2:Hid (∀j (h:j<L.length),j<k+1->m<=L[j]):=hZ (fun j h hj=>by
    by_cases e:j=k
    ·subst e;rw[HX.o,<-HM.o];omega
    ·have:=HA.o j h (by omega);have:=HM.o;omega)
   go_wp2_with fail
   go_round
   case rel=>exact⟨k+1,m,by omega,by go_num,rfl,hm1.1,hm1.2,HN2⟩
   case measure=>simp[intOf];omega
  ·have i2:¬(k:Int)<(n:Int):=by omega
   have HAL:Hid (0<=z->∀x∈L,0<=x):=hZ (fun h0 x hx=>by
    obtain⟨j,hj,rfl⟩:=List.mem_iff_getElem.1 hx;have:=HA.o j hj (by have:=HN.o;omega);omega)
   go_wp2_with fail
   exact bodyPost_ret (v:=.int .i64 z) (by simp[results,Tryz.results34,go_sem]) rfl ⟨⟨z,rfl,hz1,hz2,HAL.o⟩,rfl⟩
abbrev T4:Nat:=10000
theorem qAd.whole{k:IntKind}{w:World}{a:Option Addr}{n c:Nat}{L:List Nat}(h:qAd k w (.slice a n c) L):
 0<L.length->∃b off,a=some ⟨b,off,none⟩/\b<w.heap.size/\∀j (h:j<L.length),w.cell? ⟨b,off+j,none⟩=some (.int k (L[j]:Int)):=by
 obtain⟨a',c',e,_,_,hc⟩:=h;injection e with e1 e2 e3;subst e1;exact hc
theorem Two.far2{w:World}{b g:Nat}{t:TypeId}{x y:Value}(h:Two w b t x y)(hne:b≠g)(u u':Value):Two ((w.setCell ⟨g,0,none⟩ u).setCell ⟨g,1,none⟩ u') b t x y:=
 (Below.heap_setCell _ ⟨g,1,none⟩ u' b hne).trans ((Below.heap_setCell w ⟨g,0,none⟩ u b hne).trans h)
def eb(b m top:Nat):Nat:=b*5^min top (m-1)
attribute [irreducible] eb
def qFy(x:Int):Prop:=0<=x/\x<=1099511627776
instance (x:Int):Decidable (qH4 x):=inferInstanceAs (Decidable (_/\_))
instance (x:Int):Decidable (qFy x):=inferInstanceAs (Decidable (_/\_))
def qMl(ws bs:List Int):Int×Int:=
 if ws.length≠bs.length then (0,1)else if bs.all (fun x=>decide (qFy x))then (if qH4 (qCZ ws bs bs.length)then (qCZ ws bs bs.length,0)else (0,4))else (0,5)
def qJq(ws bs:List Int):Value:=.tuple #[.int .i64 (qMl ws bs).1,.int .i64 (qMl ws bs).2]
theorem qOo{ws bs:List Int}(h:ws.length≠bs.length):qMl ws bs=(0,1):=if_pos h
theorem qKt{ws bs:List Int}(h:ws.length=bs.length){x:Int}(hx:x∈bs)(h2:¬qFy x):qMl ws bs=(0,5):=by
 unfold qMl;rw[if_neg (by simpa using h),if_neg];intro h9;exact h2 (of_decide_eq_true (List.all_eq_true.1 h9 x hx))
theorem qOp{ws bs:List Int}(h:ws.length=bs.length)(hx:∀x∈bs,qFy x)(h2:qH4 (qCZ ws bs bs.length)):qMl ws bs=(qCZ ws bs bs.length,0):=by
 unfold qMl;rw[if_neg (by simpa using h),if_pos (List.all_eq_true.2 (fun x h9=>decide_eq_true (hx x h9))),if_pos h2]
theorem qOn{ws bs:List Int}(h:ws.length=bs.length)(hx:∀x∈bs,qFy x)(h2:¬qH4 (qCZ ws bs bs.length)):qMl ws bs=(0,4):=by
 unfold qMl;rw[if_neg (by simpa using h),if_pos (List.all_eq_true.2 (fun x h9=>decide_eq_true (hx x h9))),if_neg h2]
theorem qBT(vw vb:Value)(ws bs:List Int)(w0:World)(hw:qAg w0 vw ws)(hb:qAg w0 vb bs)(h1:B64 ws)(h2:B64 bs)(hl:bs.length<=1000):
 Calls Tryz.prog 31 #[vw,vb] w0 fun e w'=>e=.returned (qJq ws bs)/\Below w0.heap.size w0 w':=by
 have HW:=hZ hw;have HV:=hZ hb;have H1:=hZ h1;have H2:=hZ h2;obtain⟨aw,cw,rfl, -,-⟩:=qAb.form hw;obtain⟨ab,cb,rfl, -,-⟩:=qAb.form hb;have HB:=hZ (Below.refl w0.heap.size w0);clear hw hb h1 h2
 go_enter Tryz.func31,Tryz.ntmps31
 by_cases hlen:ws.length=bs.length
 ·skip
  have s1:((ws.length:Int) != (bs.length:Int))=false:=by simp;omega
  have s2:(ws.length != bs.length)=false:=by simp;omega
  have HL:=hZ hlen;clear hlen
  go_wp2_with fail
  clear s1 s2
  go_loopw [17] (fun i wr=>∃k:Nat,k<=bs.length/\i=.int .i64 k/\Hid (∀x∈bs.take k,qFy x)/\w0=wr) (fun i _=>bs.length-(intOf i).toNat)
  case atStart=>exact⟨0,by omega,rfl,hZ (fun x h=>by simp at h),rfl⟩
  case round=>
   obtain⟨k,hk,rfl,HU,rfl⟩:=hrel;by_cases hkb:k<bs.length
   ·skip
    have k1:(0:Int)<=(k:Int):=by omega
    have k2:(k:Int)<(bs.length:Int):=by omega
    obtain⟨b,cap,hv,hb,n0⟩:=HV.o.at_ k hkb;injection hv with f1 f2 f3;subst f1;clear f2 f3;obtain⟨x,hx⟩:=eX (bs[k]);rw[hx]at n0;have Hx:=hZ hx;clear hx;by_cases hxn:x<0
    ·skip
     go_wp2_with fail
     exact bodyPost_ret (v:=.tuple #[.int .i64 0,.int .i64 5]) (by simp[results,Tryz.results31,go_sem]) rfl ⟨by unfold qJq;rw[qKt (x:=x) HL.o (show x∈bs by rw[<-Hx.o];exact List.getElem_mem hkb) (by unfold qFy;omega)],HB.o⟩
    ·skip
     by_cases hxl:(1099511627776:Int)<x
     ·skip
      go_wp2_with fail
      exact bodyPost_ret (v:=.tuple #[.int .i64 0,.int .i64 5]) (by simp[results,Tryz.results31,go_sem]) rfl ⟨by unfold qJq;rw[qKt (x:=x) HL.o (show x∈bs by rw[<-Hx.o];exact List.getElem_mem hkb) (by unfold qFy;omega)],HB.o⟩
     ·skip
      go_wp2_with fail
      go_roundw
      case rel=>exact⟨k+1,by omega,by go_num,hZ (fun y hy=>by rw[List.take_succ_eq_append_getElem hkb]at hy;rcases List.mem_append.1 hy with h9|h9;exact HU.o y h9;rw[List.mem_singleton.1 h9,Hx.o];unfold qFy;omega),by trivial⟩
      case measure=>simp[intOf];omega
   ·skip
    have hke:k=bs.length:=by omega
    have HA:Hid (∀x∈bs,qFy x):=hZ (by have h9:=HU.o;rwa [hke,List.take_length]at h9);have k2:¬(k:Int)<(bs.length:Int):=by omega
    clear hke hkb HU
    go_wp2_with fail
    clear k2;refine(qC6 _ _ ws bs w0 HW.o HV.o H1.o H2.o (by rw[HL.o];exact Nat.le_refl _) (by omega)).mono ?_;rintro e w1 ⟨⟨v,rfl,hv⟩,hB⟩;have Vv:=hZ hv;replace HB:=hZ (HB.o.trans hB);clear hv hB;obtain⟨s_v,a_v,n_v,c_v,rfl⟩:=Vv.o.form4
    go_wp2_with fail
    refine(qD8 _ _ w1 Vv.o (qD7 H1.o H2.o _ (by omega))).mono ?_;rintro e w2 ⟨rfl,hB⟩;replace HB:=bT HB hB;clear hB;obtain⟨S,hS⟩:=eX (qCZ ws bs bs.length);have HS:=hZ hS;rw[hS];clear hS;by_cases hf:qH4 S
    ·skip
     rw[qGW hf];have Hf:=hZ hf;clear hf
     go_wp2_with fail
     exact bodyPost_ret (v:=.tuple #[.int .i64 S,.int .i64 0]) (by simp[results,Tryz.results31,go_sem]) rfl ⟨by unfold qJq;rw[qOp HL.o HA.o (by rw[HS.o];exact Hf.o),HS.o],HB.o⟩
    ·skip
     rw[qGV hf];have Hf:=hZ hf;clear hf
     go_wp2_with fail
     exact bodyPost_ret (v:=.tuple #[.int .i64 0,.int .i64 4]) (by simp[results,Tryz.results31,go_sem]) rfl ⟨by unfold qJq;rw[qOn HL.o HA.o (by rw[HS.o];exact Hf.o)],HB.o⟩
 ·skip
  have s1:((ws.length:Int) != (bs.length:Int))=true:=by simp;omega
  have s2:(ws.length != bs.length)=true:=by simp;omega
  have HL:=hZ hlen;clear hlen
  go_wp2_with fail
  exact bodyPost_ret (v:=.tuple #[.int .i64 0,.int .i64 1]) (by simp[results,Tryz.results31,go_sem]) rfl ⟨by unfold qJq;rw[qOo HL.o],HB.o⟩
theorem qQP{w:List Int}{n:Nat}{f:Nat->Int}(hA:∀x∈w,x.natAbs<=466560000000)(hf:∀i,i<n->(f i).natAbs<=2000000)(hn:n<=6): -9000000000000000000<=qBI w f n/\qBI w f n<=9000000000000000000:=by
 have h:=qHS hA n hf;have h2:n*(466560000000*2000000)<=6*(466560000000*2000000):=Nat.mul_le_mul_right _ hn;omega
theorem qFx{w:List Int}{n:Nat}{f:Nat->Int}(hw:w.length=n)(hA:∀x∈w,x.natAbs<=466560000000)(hf:∀i,i<n->0<=f i/\f i<=2000000)(hn:n<=6):qMl w (qBO n f)=(qBI w f n,0):=by
 have hs:=qQP (f:=f) hA (fun i hi=>by have:=hf i hi;omega) hn;unfold qMl;rw[qAz,if_neg (by omega),if_pos,qHj w n f n (Nat.le_refl _),if_pos]
 ·unfold qH4;omega
 ·rw[List.all_eq_true]
  intro x hx;obtain⟨i,hi,rfl⟩:=List.mem_map.1 hx;rw[decide_eq_true_eq];unfold qFy;have:=hf i (List.mem_range.1 hi);omega
def qGL(n:Nat)(f:Nat->Int):Nat->Int:=fun i=>if i<n then f i else 0
theorem qPq(n:Nat)(f:Nat->Int):qBO n (qGL n f)=qBO n f:=by
 unfold qBO;refine List.map_congr_left (fun i hi=> ?_);unfold qGL;rw[if_pos (List.mem_range.1 hi)]
theorem qPr(w:List Int)(n:Nat)(f:Nat->Int):qBI w (qGL n f) n=qBI w f n:=qG8 w n (fun i hi=>by unfold qGL;rw[if_pos hi])
theorem qKC:∀(rs:List Rul) (j m:Nat) (h:m<rs.length) (fails:Bool),rs[m].spawn=false->(fails=true->1<rs[m].of_)->(j+m,qBE rs[m].take (qFc rs[m] fails))∈qC3 j rs
 |r::rs,j,0,h,fails,hs,ho=>by
  simp only[List.getElem_cons_zero]at hs ho ⊢;simp only[qC3,List.mem_append]
  left
  unfold qEb qCM qFc;rw[hs];cases fails with
  |false=>by_cases h1:1<r.of_<;>simp[h1]
  |true=>simp[ho rfl]
 |r::rs,j,m+1,h,fails,hs,ho=>by
  simp only[List.getElem_cons_succ]at hs ho ⊢;simp only[qC3,List.mem_append]
  right
  have:=qKC rs (j+1) m (by simpa using h) fails hs ho
  rwa [show j+(m+1)=j+1+m by omega]
theorem qQN{c:Cat}{m:Nat}(h:m<c.rules.length){fails:Bool}(hs:c.rules[m].spawn=false)(ho:fails=true->1<c.rules[m].of_):qBE c.rules[m].take (qFc c.rules[m] fails)∈qCH c:=
 List.mem_map.2 ⟨_,qKC c.rules 0 m h fails hs ho,rfl⟩
theorem qJ6(w:List Int)(f:Nat->Int)(r:Rul)(fails:Bool)(n:Nat):qBI w (qGx f r fails) n=qBI w f n+qBI w (qBE r.take (qFc r fails)) n:=qKY w f _ n
theorem qHZ{n:Nat}{ws:List Int}{L:List (Nat×(Nat->Int))}:∀{A:List (Nat×(Nat->Int))},(∀x∈A,qFi ws n x.2=0)->qH5 n ws (A++L)=qH5 n ws L
 |[],_=>rfl
 |x::A,h=>by rw[List.cons_append,qH5,if_pos (h x (by simp)),qHZ (fun y hy=>h y (by simp[hy]))]
def qRV(n:Nat)(ws:List Int)(rs:List Rul)(j:Nat)(i z:Int):Prop:=∃m,∃h:m<rs.length,i=((j+m:Nat):Int)/\rs[m].spawn=false/\
 ((qBI ws (qBE rs[m].take (qFc rs[m] false)) n≠0/\z=qCr (qBI ws (qBE rs[m].take (qFc rs[m] false)) n))\/
  (qBI ws (qBE rs[m].take (qFc rs[m] false)) n=0/\qBI ws (qBE rs[m].take (qFc rs[m] true)) n≠0/\z=qCr (qBI ws (qBE rs[m].take (qFc rs[m] true)) n)))
theorem qLd{n:Nat}{ws:List Int}:∀(rs:List Rul) (j:Nat) (i z:Int),qH5 n ws (qC3 j rs)=(i,z,true)->qRV n ws rs j i z
 |[],j,i,z,h=>by simp[qC3,qH5]at h
 |r::rs,j,i,z,h=>by
  have later:(∀x∈qEb j r,qFi ws n x.2=0)->qRV n ws (r::rs) j i z:=fun h0=>by
   rw[qC3,qHZ h0]at h;obtain⟨m,hm,e1,e2,e3⟩:=qLd rs (j+1) i z h;exact⟨m+1,by simp;omega,by rw[e1];congr 1;omega,by simpa using e2,by simpa using e3⟩
  cases hs:r.spawn with
  |true=>exact later (fun x hx=>by unfold qEb at hx;rw[hs]at hx;simp at hx)
  |false=>
   by_cases h1:qBI ws (qBE r.take r.give) n=0
   ·by_cases ho:1<r.of_
    ·by_cases h2:qBI ws (qBE r.take r.back) n=0
     ·refine later (fun x hx=> ?_)
      unfold qEb qCM at hx;rw[hs]at hx;simp only[ho,if_true,Bool.false_eq_true,if_false,List.map_cons,List.map_nil,List.mem_cons,List.not_mem_nil,or_false]at hx;rw[qBM];rcases hx with rfl|rfl
      ·exact h1
      ·exact h2
     ·have e:qC3 j (r::rs)=[(j,qBE r.take r.give)]++((j,qBE r.take r.back)::qC3 (j+1) rs):=by
       simp[qC3,qEb,qCM,hs,ho]
      rw[e,qHZ (fun x hx=>by simp only[List.mem_cons,List.not_mem_nil,or_false]at hx;rw[hx,qBM];exact h1),qH5,if_neg (by rw[qBM];exact h2)]at h;injection h with e1 h;injection h with e2 _;exact⟨0,by simp,by rw[<-e1];rfl,by simpa using hs,.inr ⟨by simpa[qFc]using h1,by simpa[qFc]using h2,by rw[<-e2,qBM];simp[qFc]⟩⟩
    ·refine later (fun x hx=> ?_)
     unfold qEb qCM at hx;rw[hs]at hx;simp only[ho,Bool.false_eq_true,if_false,List.map_cons,List.map_nil,List.mem_cons,List.not_mem_nil,or_false]at hx;rw[hx,qBM];exact h1
   ·have e:∃L,qC3 j (r::rs)=(j,qBE r.take r.give)::L:=by
     by_cases ho:1<r.of_
     ·exact⟨(j,qBE r.take r.back)::qC3 (j+1) rs,by simp[qC3,qEb,qCM,hs,ho]⟩
     ·exact⟨qC3 (j+1) rs,by simp[qC3,qEb,qCM,hs,ho]⟩
    obtain⟨L,e⟩:=e;rw[e,qH5,if_neg (by rw[qBM];exact h1)]at h;injection h with e1 h;injection h with e2 _;exact⟨0,by simp,by rw[<-e1];rfl,by simpa using hs,.inl ⟨by simpa[qFc]using h1,by rw[<-e2,qBM];simp[qFc]⟩⟩
theorem qPM{n:Nat}{ws:List Int}:∀{L:List (Nat×(Nat->Int))} {i z:Int},qH5 n ws L=(i,z,false)->∀x∈L,qFi ws n x.2=0
 |[],_,_,_,x,hx=>by simp at hx
 |y::L,i,z,h,x,hx=>by
  rw[qH5]at h
  split at h
  ·next h0=>
   rcases List.mem_cons.1 hx with rfl|hx
   ·exact h0
   ·exact qPM h x hx
  ·injection h with _ h
   injection h with _ h;cases h
theorem qH8(v:Value)(zs:List Int)(len n:Nat)(w0:World)(h:qBW w0 v zs len)(hn:n<=1000):
 Calls Tryz.prog 22 #[v,.int .i64 n] w0 fun e w'=>Below w0.heap.size w0 w'/\∃(a:Nat) (l:List Int),e=.returned (.slice (some ⟨a,0,none⟩) n n)/\w0.heap.size<=a/\qAf w' a 3 (l.map zv)/\l.length=n/\∀x∈l, -4<=x/\x<=4:=by
 have H:=hZ h;have HB:=hZ (Below.refl w0.heap.size w0);clear h
 go_enter Tryz.func22,Tryz.ntmps22
 go_wp2_with (at_make;refine qBq rfl rfl (n) rfl rfl rfl rfl (by omega) ?_)
 intro w1 h_9 hB hlt9;obtain⟨g,hb⟩:=eX w0.heap.size;rw[hb]at h_9 ⊢;have Oc':=hZ h_9;have hge_g:Hid (w0.heap.size<=g):=hZ (Nat.le_of_eq hb);have hlt_g:Hid (g<w1.heap.size):=hZ (by rw[<-hb];exact hlt9);clear h_9 hb hlt9;replace HB:=bT HB hB;clear hB;have Oc:=Oc';clear Oc'
 go_wp2_with fail
 replace Oc:Hid (qAf w1 g 3 ((List.replicate n (0:Int)).map zv)):=hZ (by have h9:=Oc.o;simpa[zv]using h9);have HGg:Hid (w0.heap.size<=g):=hge_g;clear hge_g hlt_g
 go_loopw [6] (fun i wr=>∃(k:Nat) (cs:List Int),k<=n/\i=.int .i64 k/\Hid (cs.length=n/\∀x∈cs, -4<=x/\x<=4)/\Hid (qAf wr g 3 (cs.map zv))/\Hid (Below w0.heap.size w0 wr)) (fun i _=>n-(intOf i).toNat)
 case atStart=>exact⟨0,List.replicate n 0,by omega,rfl,hZ ⟨by simp,fun x hx=>by rw[(List.mem_replicate.1 hx).2];omega⟩,Oc,HB⟩
 case round=>
  clear Oc HB;obtain⟨k,cs,hk,rfl,HC,Oc,HB⟩:=hrel;obtain⟨w1,rfl⟩:=eY wr;by_cases hkc:k<n
  ·skip
   have k1:(0:Int)<=(k:Int):=by omega
   have k2:(k:Int)<(n:Int):=by omega
   have HP4:=hZ (qDs v zs len k 9 w1 (H.o.below (Nat.le_refl _) HB.o) (by omega) (by omega) (by omega));have R4:=qCe zs len k 9 (by omega);obtain⟨z,hz⟩:=eX (qDI zs len k 9);rw[hz]at HP4 R4;clear hz
   go_wp2_with fail
   refine HP4.o.mono ?_;rintro e w9 ⟨rfl,hw9⟩;replace hw9:=hw9.symm;subst hw9;clear HP4;obtain⟨z1,hz1⟩:=eX (z-4);have hz1w:IntKind.i64.wrap (z-4)=z1:=by rw[IntWalk.i64_in _ (by omega)];exact hz1
   have rz1: -4<=z1/\z1<=4:=by omega
   obtain⟨u9,e1⟩:∃u,w1.cell? ⟨g,k,none⟩=some u:=⟨_,(Oc.o.cell k).trans (List.getElem?_eq_getElem (by rw[List.length_map,HC.o.1];exact hkc))⟩;have e2:=Oc.o.frozen (k);obtain⟨w2,hw⟩:=eX (w1.setCell ⟨g,k,none⟩ (.int .i64 z1));have ho:qAc (fun b=>b=g) w1 w2:=by rw[<-hw];exact(qAc.refl (fun b=>b=g) _).set (p:=⟨g,k,none⟩) rfl _
   have hN:∀b,b=g->qAi w1 b:=fun b e=>e▸Oc.o.noInt qKo;replace Oc:=hZ ((by have h1:=Oc.o.set k (.int .i64 z1);rw[hw,show(Value.int .i64 z1)=zv z1 from rfl,<-List.map_set]at h1;exact h1));replace HB:=hZ (qAY HB.o ho (fun b e=>by have:=HGg.o;omega) HB.o.size);clear ho hN;replace HC:Hid ((cs.set k z1).length=n/\∀x∈cs.set k z1, -4<=x/\x<=4):=hZ ⟨by rw[List.length_set];exact HC.o.1,fun x hx=>by rcases List.mem_or_eq_of_mem_set hx with h9|h9;exact HC.o.2 x h9;rw[h9];exact rz1⟩;generalize cs.set k z1=cs at *
   go_wp2_with fail
   go_roundw
   case rel=>exact⟨k+1,cs,by omega,by go_num,HC,Oc,HB⟩
   case measure=>simp[intOf];omega
  ·skip
   go_wp2_with fail
   go_ret;obtain rfl:k=n:=by omega
   exact⟨HB.o,g,cs,rfl,HGg.o,Oc.o,HC.o⟩
theorem qIN{w:World}{base n:Nat}{v:Value}{r:List Int}(h:w.ownsRow base 3 1 v n (r.map zv))(hn:r.length=n):qAg w v r:=by
 rcases id h.2 with ⟨rfl,h0⟩|⟨g,cap,cur,rfl,_⟩
 ·obtain rfl:r=[]:=List.eq_nil_of_length_eq_zero (by omega)
  exact qAb.nil _ 0 (by omega)
 ·subst hn
  exact qAg.of_own h
end Go.Proofs.YtkjhlkngihponaaGreatDoor
