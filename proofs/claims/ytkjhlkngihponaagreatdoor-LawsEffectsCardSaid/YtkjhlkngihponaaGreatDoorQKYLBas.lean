/- laws.Basis. -/
import Derived.Test.YtkjhlkngihponaaGreatDoorQKGGen
import Derived.Test.YtkjhlkngihponaaGreatDoorQKLTimes
import Derived.LoopIn
import Derived.Test.YtkjhlkngihponaaGreatDoorQKGVal
set_option linter.unusedVariables false
set_option linter.unusedSimpArgs false
set_option maxHeartbeats 12000000
set_option maxRecDepth 100000
namespace Go.Proofs.YtkjhlkngihponaaGreatDoor
open Go.RowKit
attribute [local go_sem] Oper.semAt_some
theorem qKr(a b:Nat)(h:a*b<=12):IntKind.i64.wrap ((a:Int)*(b:Int))=((a*b:Nat):Int):=by
 rw[<-Int.natCast_mul];exact IntWalk.i64_in _ (by omega)
def qQD(w:World)(pk:Nat->Nat->Nat)(n:Nat)(t7 t8:Value)(W:World):Prop:=
 ∃(i:Nat) (gi:Option Addr) (ci:Nat) (gw:Option Addr) (cw:Nat),i<=n/\ci<=9223372036854775807/\cw<=9223372036854775807/\t8=.int .i64 i/\t7=.slice gw i cw/\Hid (G1 w W pk i i (.slice gi i ci) (.slice gw i cw))
def qQC(w:World)(pk:Nat->Nat->Nat)(bal:Bool)(n:Nat)(vI vW:Value)(t9:Value)(W:World):Prop:=
 ∃(i:Nat) (ar:Option Addr) (cr:Nat),i<=pk 7 7/\cr<=9223372036854775807/\t9=.int .i64 i/\Hid (GI w W pk bal n i vI vW (.slice ar i cr))
def qQB(w:World)(pk:Nat->Nat->Nat)(bal:Bool)(n i:Nat)(vI vW vR:Value)(g:Nat)(t11:Value)(W:World):Prop:=
 ∃(k:Nat) (vt vg:Value),k<=gK pk i/\t11=.int .i64 k/\Hid (GR w W pk bal n i vI vW vR g vt vg (qCv pk bal n i k) (qCz pk bal n i k))
theorem qKi(v:Value)(pk:Nat->Nat->Nat)(bal:Bool)(w:World)(hp:qJm pk)(hv:qPO w v pk):
 Calls Tryz.prog 11 #[v,.bool bal] w fun e w'=>(∃vi vr,e=.returned (qBo vi vr)/\qAS w' vi vr (qBA pk bal))/\Below w.heap.size w w':=by
 have HV:=hZ hv;have HP:=hZ hp;obtain⟨n,hn⟩:=eX (qLQ pk);have hn1:1<=n:=by have:=qEL hp;omega
 have hn5:n<=5:=by have:=qEL hp;omega
 have hp5:pk 0 5<5:=hp.lt 0 5 (by omega);have HN:=hZ hn;have hN:(1:Int)+((pk 0 5:Nat):Int)=(n:Int):=by unfold qLQ at hn;omega
 have HB:=hZ (Below.refl w.heap.size w);clear hv hp hn
 go_enter Tryz.func11,Tryz.ntmps11
 go_wp2_with fail
 obtain⟨w1,hw1⟩:=eX ((w.alloc (.cells #[.slice none 0 0,.slice none 0 0,.slice none 0 0,.slice none 0 0] 28)).alloc (.cells #[.slice none 0 0,.slice none 0 0,.slice none 0 0,.slice none 0 0] 28));have HG:Hid (G1 w w1 pk 0 0 (.slice none 0 0) (.slice none 0 0)):=hZ (by
  rw[<-hw1];refine⟨aR.alloc (by simp) _,(qAf.new _ _ _).alloc _,?_,World.ownsRow_nil _ _ _ _,World.ownsRow_nil _ _ _ _,fun _=>rfl,fun _=>rfl⟩;have:=qAf.new (w.alloc (.cells #[.slice none 0 0,.slice none 0 0,.slice none 0 0,.slice none 0 0] 28)) 28 [.slice none 0 0,.slice none 0 0,.slice none 0 0,.slice none 0 0];simpa using this)
 rw[hw1];clear hw1 HB;refine(HV.o _ HG.o.b _ 0 _ 5 rfl rfl (by omega) (by omega) (by omega)).mono ?_;rintro e w' ⟨rfl,rfl⟩
 go_wp2_with fail
 clear hN hp5
 go_loopw [7,8] (qQD w pk n) (fun _ i _=>n-(intOf i).toNat)
 case atStart=>exact⟨0,none,0,none,0,by omega,by omega,by omega,rfl,rfl,HG⟩
 case round=>
  clear HG;obtain⟨i,gi,ci,gw,cw,hi,hci,hcw,rfl,rfl,HG⟩:=hrel;by_cases hlt:i<n
  ·have hltB:decide ((i:Int)<(n:Int))=true:=by simp;omega
   have hix:i<6:=by omega
   have hixI:(i:Int)<6:=by omega
   obtain⟨nm,hnm⟩:∃nm,qAy[i]? =some nm:=⟨qAy[i]'(by simp[qAy];omega),List.getElem?_eq_getElem _⟩;have HNM:=hZ hnm;clear hnm;have hsz:=HG.o.sz
   go_wp2_with fail
   refine qBQ 10 (fun W=>W.cell? ⟨w.heap.size+1,0,none⟩=some (.slice gi i ci)) (by kernel_rfl) (HG.o.x.cell 0) (fun hHeld=> ?_);refine kU 0 25 ?_;refine kU 1 26 ?_;refine kU 3 28 ?_;refine qA2 2 (by kernel_rfl) rfl (fun K hK=> ?_);go_simp;refine(qM7 _).mono ?_;rintro e w2 ⟨rfl,hw2⟩;have hB2:Below wr.heap.size wr w2:=by rw[hw2];exact(Below.refl _ _).drew.alloc (Nat.le_refl _) _
   have HNB:Hid (qAf w2 wr.heap.size 9 (qAy.map (fun n=> .string ⟨n.toArray⟩))):=hZ (by rw[hw2];exact qAf.new _ _ _);have nmc:w2.cell? ⟨wr.heap.size,i,none⟩=some (.string ⟨nm.toArray⟩):=by rw[HNB.o.cell,List.getElem?_map,HNM.o];rfl
   have HG2:=hZ (HG.o.below hB2);clear hw2 HNB HG hHeld
   go_wp2_with fail
   refine hK.out _ _ (HG2.o.x.cell 0) (fun hHeld=> ?_);clear hK K
   try simp only[Act.put,List.setIfInBounds_toArray,List.set_cons_zero,List.set_cons_succ]
   refine kU 4 29 ?_;refine qA2 5 (by kernel_rfl) rfl (fun K hK=> ?_);go_simp
   go_wp2_with fail
   refine hK.out _ _ (hHeld) (fun hHeld=> ?_);clear hK K
   try simp only[Act.put,List.setIfInBounds_toArray,List.set_cons_zero,List.set_cons_succ]
   refine kU 6 31 ?_;refine qA2 7 (by kernel_rfl) rfl (fun K hK=> ?_);go_simp;obtain⟨w3,hw3⟩:=eX (w2.alloc (.cells #[.string ⟨nm.toArray⟩,.bool false,.bool false,.bool false,.int .i64 0,.int .i64 0,.int .i64 0] 61));have HK3:Hid (qAf w3 w2.heap.size 61 (qBF nm)):=hZ (by rw[<-hw3];exact qAf.new _ _ _);have hB3:Below w2.heap.size w2 w3:=by rw[<-hw3];exact aR
   have HG3:=hZ (HG2.o.below hB3);rw[hw3];clear hw3 HG2 hB3 hB2 nmc hHeld
   go_wp2_with fail
   refine hK.out _ _ (HG3.o.x.cell 0) (fun hHeld=> ?_);clear hK K
   try simp only[Act.put,List.setIfInBounds_toArray,List.set_cons_zero,List.set_cons_succ]
   refine qA2 8 (by kernel_rfl) rfl (fun K hK=> ?_);refine qMu (W0:=w3) qCR rfl _ _ rfl (qBF nm) w2.heap.size _ _ _ rfl rfl HK3.o rfl (by simp[qBF,zv,Value.oneCell']) HG3.o.it (Below.refl _ _) HG3.o.sz (by omega) (by omega) ?_;intro g5 cap5 w5 Hown5 HB5 HO5 hcap5 hcap6;have x5:qAf w5 (w.heap.size+1) 28 _:=HG3.o.x.only HO5.o (fun hs=>by have:=(HG3.o.it.lt _ hs).1;omega);have x5f:=x5.frozen;have x5c:=x5.cell 0;clear hHeld
   go_wp2_with fail
   refine hK.out _ _ (x5.cell 0) (fun hHeld=> ?_);clear hK K
   try simp only[Act.put,List.setIfInBounds_toArray,List.set_cons_zero,List.set_cons_succ]
   refine kU 9 34 ?_;obtain⟨w6,hw6⟩:=eX (w5.setCell ⟨w.heap.size+1,0,none⟩ (.slice (some ⟨g5,0,none⟩) (i+1) cap5));have HG6:Hid (G1 w w6 pk (i+1) i (.slice (some ⟨g5,0,none⟩) (i+1) cap5) (.slice gw i cw)):=hZ (by rw[<-hw6];exact HG3.o.items hix HNM.o HO5.o Hown5.o);clear HG3 HK3 HO5 HB5 Hown5;refine qFd (by kernel_rfl) rfl (by kernel_rfl) (fun K hK=> ?_);go_simp;refine hK.out _ _ ?_;clear hK K
   try simp only[Act.put,List.setIfInBounds_toArray,List.set_cons_zero,List.set_cons_succ]
   clear hHeld x5 x5f x5c hw6 hsz;have hsz:=HG6.o.sz
   go_wp2_with fail
   refine(HV.o _ HG6.o.b _ (1+i) _ 4 (by omega) rfl (by omega) (by omega) (by omega)).mono ?_;rintro e w' ⟨rfl,rfl⟩;have hp4:=HP.o.lt (1+i) 4 (by omega)
   go_wp2_with (at_builtin;refine qAn (W0:=w') qEP rfl _ _ rfl [.int .i64 (1+((pk (1+i) 4:Nat):Int))] 3 _ _ _ rfl rfl rfl (by simp[Value.oneCell']) HG6.o.wt (Below.refl _ _) HG6.o.sz (by omega) (by omega) ?_)
   intro g7 cap7 w7 Hown7 HB7 HO7 hcap7 hat7;have HG7:=hZ (HG6.o.weights HO7.o Hown7.o);clear HG6 Hown7 HB7 HO7 hat7
   go_wp2_with fail
   go_roundw
   case rel=>exact⟨i+1,_,_,_,_,by omega,hcap5,hcap7,by go_num,rfl,HG7⟩
   case measure=>simp[intOf];omega
  ·have hltB:decide ((i:Int)<(n:Int))=false:=by simp;omega
   obtain rfl:n=i:=by omega
   have HGI:Hid (GI w wr pk bal n 0 (.slice gi n ci) (.slice gw n cw) (.slice none 0 0)):=hZ (HG.o.gi (by omega));obtain⟨bw,hbw⟩:∃bw,gw=some ⟨bw,0,none⟩:=by
    obtain⟨b,cap,cs,hv,_⟩:=qAb.at_ HGI.o.wt 0 (by simp;omega);injection hv with e1 _ _;exact⟨b,e1⟩
   subst hbw;clear HG hlt
   go_wp2_with fail
   clear hltB hi;have hp7:=HP.o.lt 7 7 (by omega)
   go_loopw [9] (qQC w pk bal n (.slice gi n ci) (.slice (some ⟨bw,0,none⟩) n cw)) (fun i _=>pk 7 7-(intOf i).toNat)
   case atStart=>exact⟨0,none,0,by omega,by omega,rfl,HGI⟩
   case round=>
    clear HGI;obtain⟨i,ar,cr,hi,hcr,rfl,HG⟩:=hrel;have hsz:=HG.o.sz
    go_wp2_with fail
    refine(HV.o _ HG.o.b _ 7 _ 7 rfl rfl (by omega) (by omega) (by omega)).mono ?_;rintro e w' ⟨rfl,rfl⟩;by_cases hlt:i<pk 7 7
    ·have hltB:decide ((i:Int)<((pk 7 7:Nat):Int))=true:=by simp;omega
     go_wp2_with fail
     refine(qKd i _ (by omega)).mono ?_;rintro e w' ⟨rfl,rfl⟩;have hnm:(⟨#[114,117,108,101]⟩:ByteArray)++⟨(dec i).toArray⟩=⟨(ruleTx i).toArray⟩:=qOb [114,117,108,101] (dec i);have hdl:=qPl i (by omega);simp only[sv]
     go_wp2_with fail
     clear hdl hnm;obtain⟨w2,hw2⟩:=eX (w'.alloc (.cells #[.string ⟨(ruleTx i).toArray⟩,.bool false,.int .i64 0,.int .i64 0,.int .i64 1,.int .i64 1,.slice none 0 0,.slice none 0 0,.slice none 0 0] 54));have hB2:Below w'.heap.size w' w2:=by rw[<-hw2];exact aR
     have HR:Hid (GR w w2 pk bal n i (.slice gi n ci) (.slice (some ⟨bw,0,none⟩) n cw) (.slice ar i cr) w'.heap.size (.slice none 0 0) (.slice none 0 0) (qCv pk bal n i 0) (qCz pk bal n i 0)):=hZ ⟨HG.o.below hB2,by rw[<-hw2];exact qAf.new _ _ _,HG.o.sz,fun hb=>by have:=(HG.o.row _ hb).2.2;omega,qAb.nil _ _ (by omega),qAb.nil _ _ (by omega)⟩;rw[hw2];have hgw:w.heap.size+1<w'.heap.size:=by omega
     obtain⟨g,hg⟩:=eX w'.heap.size;rw[hg]at HR hgw ⊢;clear hw2 hB2 HG hltB hg hsz;have hp8:=HP.o.lt (8+5*i) 3 (by omega);have hgK:gK pk i=pk (8+5*i) 3/2+1:=rfl;obtain⟨K0,hK0⟩:=eX (gK pk i)
     go_loopw [11] (qQB w pk bal n i (.slice gi n ci) (.slice (some ⟨bw,0,none⟩) n cw) (.slice ar i cr) g) (fun k _=>gK pk i-(intOf k).toNat)
     case atStart=>exact⟨0,_,_,by omega,rfl,HR⟩
     case round=>
      clear HR;obtain⟨k,vt,vg,hk,rfl,HR⟩:=hrel;have hk2:k<=2:=by omega
      have hsz:=HR.o.gi.sz
      go_wp2_with fail
      refine(HV.o _ HR.o.gi.b _ (8+5*i) _ 3 (by omega) rfl (by omega) (by omega) (by omega)).mono ?_;rintro e w' ⟨rfl,rfl⟩;by_cases hlt2:k<gK pk i
      ·have hltC:decide ((k:Int)<=((pk (8+5*i) 3:Nat):Int)/2)=true:=by simp;omega
       go_wp2_with fail
       refine(HV.o _ HR.o.gi.b _ (9+5*i+2*k) _ n (by omega) rfl (by omega) (by omega) (by omega)).mono ?_;rintro e w' ⟨rfl,rfl⟩
       go_wp2_with fail
       refine(HV.o _ HR.o.gi.b _ (10+5*i+2*k) _ n (by omega) rfl (by omega) (by omega) (by omega)).mono ?_;rintro e w' ⟨rfl,rfl⟩
       go_wp2_with fail
       refine(HV.o _ HR.o.gi.b _ (9+5*i+2*k) _ 30 (by omega) rfl (by omega) (by omega) (by omega)).mono ?_;rintro e w' ⟨rfl,rfl⟩;obtain⟨Y,hY⟩:=eX (gBy pk i k);have hby:(1:Int)+((pk (9+5*i+2*k) 30:Nat):Int)/10=(Y:Int):=by unfold gBy at hY;omega
       have hp30:=HP.o.lt (9+5*i+2*k) 30 (by omega);have hY3:Y<=3:=by have:=qNB HP.o i k;omega
       obtain⟨A,hA⟩:=eX (pk (9+5*i+2*k) n);obtain⟨B,hB⟩:=eX (pk (10+5*i+2*k) n);have hAn:A<n:=by rw[<-hA];exact HP.o.lt _ _ (by omega)
       have hBn:B<n:=by rw[<-hB];exact HP.o.lt _ _ (by omega)
       have HA:Hid (gA pk n i k=A):=hZ hA;have HBB:Hid (gB pk n i k=B):=hZ hB;have HY:=hZ hY;rw[hA,hB];clear hA hB hY;have m6:=HR.o.r.cell 6;have m7:=HR.o.r.cell 7;have mf:=HR.o.r.frozen;have ft:=qLR HP.o bal n i k (by omega) hk2;have fg:=qLT HP.o bal n i k (by omega) hk2;have FT:=hZ ft;have FG:=hZ fg;clear ft fg;cases bal with
       |false=>
        go_wp2_with fail
        refine(qHu _ _ A Y _ HR.o.t FT.o.1 FT.o.2 (by omega) (by omega)).mono ?_;rintro e w3 ⟨⟨v',rfl,hv'⟩,hB3⟩;obtain⟨a',c',rfl,hl',hc'⟩:=hv'.form;have HR3:=hZ (HR.o.below hB3);have HV3:=hZ hv';clear m6 m7 mf hv' hB3 HR;have m6:=HR3.o.r.cell 6;have mf:=HR3.o.r.frozen
        go_wp2_with fail
        obtain⟨w4,hw4⟩:=eX (w3.setCell ⟨g,6,none⟩ (.slice a' (qMP (qCv pk false n i k) A Y).length c'));have HR4:=hZ (HR3.o.setT HV3.o);rw[hw4]at HR4 ⊢;clear hw4 HR3 HV3 m6 mf hsz;have W1:IntKind.i64.wrap (5*(i:Int))=5*(i:Int):=IntWalk.i64_in _ (by omega);have W2:IntKind.i64.wrap (10+5*(i:Int))=10+5*(i:Int):=IntWalk.i64_in _ (by omega);have W3:IntKind.i64.wrap (2*(k:Int))=2*(k:Int):=IntWalk.i64_in _ (by omega);have W4:IntKind.i64.wrap (10+5*(i:Int)+2*(k:Int))=10+5*(i:Int)+2*(k:Int):=IntWalk.i64_in _ (by omega);refine qBQ 15 (fun W=>W.cell? ⟨g,7,none⟩=some vg) (by kernel_rfl) (HR4.o.r.cell 7) (fun hHeld=> ?_);refine kU 0 120 ?_;refine kU 1 121 ?_;refine kU 2 122 ?_;refine kU 3 123 ?_;refine kU 4 124 ?_;refine kU 5 125 ?_;refine kU 6 126 ?_;refine kU 7 127 ?_;refine kU 8 128 ?_;refine kU 9 129 ?_;refine qA2 10 (by kernel_rfl) rfl (fun K hK=> ?_);go_simp;refine(HV.o _ HR4.o.gi.b.drew _ (10+5*i+2*k) _ 40 (by omega) rfl (by omega) (by omega) (by omega)).mono ?_;rintro e w5 ⟨rfl,hw5⟩;have hB5:Below w4.heap.size w4 w5:=by rw[hw5];exact(Below.refl _ _).drew
        have HR5:=hZ (HR4.o.below hB5);clear hw5 hB5 HR4 hHeld W1 W2 W3 W4;have hp40:=HP.o.lt (10+5*i+2*k) 40 (by omega);obtain⟨p,hpp⟩:=eX (pk (10+5*i+2*k) 40);have HPP:Hid (qG4 pk false n i k=1+p/10):=hZ (by rw[<-hpp];rfl);rw[hpp]at hp40 ⊢;clear hpp;obtain⟨q,hq⟩:=eX (p/10);rw[hq]at HPP;have W1:IntKind.i64.wrap ((p:Int)/10)=(q:Int):=by rw[IntWalk.i64_in _ (by omega)];omega
        have W2:IntKind.i64.wrap (1+(q:Int))=((1+q:Nat):Int):=by rw[IntWalk.i64_in _ (by omega)];omega
        have hq4:q<4:=by omega
        clear hq
        go_wp2_with fail
        refine hK.out _ _ (HR5.o.r.cell 7) (fun hHeld=> ?_);clear hK K
        try simp only[Act.put,List.setIfInBounds_toArray,List.set_cons_zero,List.set_cons_succ]
        refine kU 11 131 ?_;refine kU 12 132 ?_;refine qA2 13 (by kernel_rfl) rfl (fun K hK=> ?_);go_simp;refine(qHu _ _ B (1+q) _ HR5.o.g_ FG.o.1 FG.o.2 (by omega) (by omega)).mono ?_;rintro e w6 ⟨⟨v6,rfl,hv6⟩,hB6⟩;obtain⟨a6,c6,rfl,hl6,hc6⟩:=hv6.form;have HR6:=hZ (HR5.o.below hB6);have HV6:=hZ hv6;clear hv6 hB6 HR5 hHeld W1 W2;have m7:=HR6.o.r.cell 7;have mf:=HR6.o.r.frozen
        go_wp2_with fail
        refine hK.out _ _ (HR6.o.r.cell 7) (fun hHeld=> ?_);clear hK K
        try simp only[Act.put,List.setIfInBounds_toArray,List.set_cons_zero,List.set_cons_succ]
        refine kU 14 134 ?_;obtain⟨w7,hw7⟩:=eX (w6.setCell ⟨g,7,none⟩ (.slice a6 (qMP (qCz pk false n i k) B (1+q)).length c6));have HR7:=hZ (HR6.o.setG HV6.o);rw[hw7]at HR7;clear HR6 HV6;refine qFd (by kernel_rfl) rfl (by kernel_rfl) (fun K hK=> ?_);go_simp;refine hK.out _ _ ?_;clear hK K
        try simp only[Act.put,List.setIfInBounds_toArray,List.set_cons_zero,List.set_cons_succ]
        clear hHeld m7 mf hw7
        go_wp2_with fail
        go_roundw
        case rel=>exact⟨k+1,_,_,by omega,by go_num,hZ (by rw[qCv,qCz,HA.o,HBB.o,HPP.o,show qG2 pk false n i k=Y from HY.o];exact HR7.o)⟩
        case measure=>simp[intOf];omega
       |true=>
        go_wp2_with fail
        obtain⟨wb,hwb⟩:=eX (qJr pk B);have hwb4:wb<=4:=by have:=qHN HP.o B;omega
        have hm12:wb*Y<=12:=Nat.mul_le_mul hwb4 hY3;have HW1:Hid (qJr pk B*Y=wb*Y):=hZ (by rw[hwb]);have W1:IntKind.i64.wrap ((wb:Int)*(Y:Int))=((wb*Y:Nat):Int):=qKr wb Y hm12;have hJI:(B:Int)<(n:Int):=by omega
        have hJc:w'.cell? ⟨bw,B,none⟩=some (.int .i64 (wb:Int)):=by rw[HR.o.gi.wcell B (by omega),hwb]
        have HJ:=hZ hJc;have HWB:=hZ hwb;clear hwb hJc;refine qBQ 11 (fun W=>W.cell? ⟨g,6,none⟩=some vt/\W.cell? ⟨bw,B,none⟩=some (.int .i64 (wb:Int))) (by kernel_rfl) (⟨HR.o.r.cell 6,HJ.o⟩) (fun hHeld=> ?_);refine kU 0 92 ?_;refine kU 1 93 ?_;refine kU 2 94 ?_;refine kU 3 95 ?_;refine kU 4 96 ?_;refine kU 5 97 ?_;refine kU 6 98 ?_;refine kU 7 99 ?_;refine kU 8 100 ?_;refine qA2 9 (by kernel_rfl) rfl (fun K hK=> ?_);go_simp;refine(qHu _ _ A (wb*Y) _ (HR.o.below (Below.refl _ _).drew).t FT.o.1 FT.o.2 (by omega) (by omega)).mono ?_;rintro e w3 ⟨⟨v',rfl,hv'⟩,hB3⟩;obtain⟨a',c',rfl,hl',hc'⟩:=hv'.form;have HRn:=hZ ((HR.o.below (Below.refl _ _).drew).below hB3);have HVn:=hZ hv';have HJn:Hid (w3.cell? ⟨bw,B,none⟩=some (.int .i64 (wb:Int))):=hZ (by rw[HRn.o.gi.wcell B (by omega),HWB.o]);clear hv' hB3 HR hHeld W1 HJ;have mm:=HRn.o.r.cell 6;have mf:=HRn.o.r.frozen
        go_wp2_with fail
        refine hK.out _ _ (⟨HRn.o.r.cell 6,HJn.o⟩) (fun hHeld=> ?_);clear hK K
        try simp only[Act.put,List.setIfInBounds_toArray,List.set_cons_zero,List.set_cons_succ]
        refine kU 10 102 ?_;obtain⟨w4,hwl⟩:=eX (w3.setCell ⟨g,6,none⟩ (.slice a' (qMP (qCv pk true n i k) A (wb*Y)).length c'));have HR4:=hZ (HRn.o.setT HVn.o);rw[hwl]at HR4;clear HRn HVn HJn;refine qFd (by kernel_rfl) rfl (by kernel_rfl) (fun K hK=> ?_);go_simp;refine hK.out _ _ ?_;clear hK K
        try simp only[Act.put,List.setIfInBounds_toArray,List.set_cons_zero,List.set_cons_succ]
        clear hHeld mm mf hwl hwb4 hm12 hJI
        go_wp2_with fail
        obtain⟨wb,hwb⟩:=eX (qJr pk A);have hwb4:wb<=4:=by have:=qHN HP.o A;omega
        have hm12:wb*Y<=12:=Nat.mul_le_mul hwb4 hY3;have HW2:Hid (qJr pk A*Y=wb*Y):=hZ (by rw[hwb]);have W1:IntKind.i64.wrap ((wb:Int)*(Y:Int))=((wb*Y:Nat):Int):=qKr wb Y hm12;have hJI:(A:Int)<(n:Int):=by omega
        have hJc:w4.cell? ⟨bw,A,none⟩=some (.int .i64 (wb:Int)):=by rw[HR4.o.gi.wcell A (by omega),hwb]
        have HJ:=hZ hJc;have HWA:=hZ hwb;clear hwb hJc;refine qBQ 11 (fun W=>W.cell? ⟨g,7,none⟩=some vg/\W.cell? ⟨bw,A,none⟩=some (.int .i64 (wb:Int))) (by kernel_rfl) (⟨HR4.o.r.cell 7,HJ.o⟩) (fun hHeld=> ?_);refine kU 0 103 ?_;refine kU 1 104 ?_;refine kU 2 105 ?_;refine kU 3 106 ?_;refine kU 4 107 ?_;refine kU 5 108 ?_;refine kU 6 109 ?_;refine kU 7 110 ?_;refine kU 8 111 ?_;refine qA2 9 (by kernel_rfl) rfl (fun K hK=> ?_);go_simp;refine(qHu _ _ B (wb*Y) _ (HR4.o.below (Below.refl _ _).drew).g_ FG.o.1 FG.o.2 (by omega) (by omega)).mono ?_;rintro e w5 ⟨⟨v',rfl,hv'⟩,hB3⟩;obtain⟨a',c',rfl,hl',hc'⟩:=hv'.form;have HRn:=hZ ((HR4.o.below (Below.refl _ _).drew).below hB3);have HVn:=hZ hv';have HJn:Hid (w5.cell? ⟨bw,A,none⟩=some (.int .i64 (wb:Int))):=hZ (by rw[HRn.o.gi.wcell A (by omega),HWA.o]);clear hv' hB3 HR4 hHeld W1 HJ;have mm:=HRn.o.r.cell 7;have mf:=HRn.o.r.frozen
        go_wp2_with fail
        refine hK.out _ _ (⟨HRn.o.r.cell 7,HJn.o⟩) (fun hHeld=> ?_);clear hK K
        try simp only[Act.put,List.setIfInBounds_toArray,List.set_cons_zero,List.set_cons_succ]
        refine kU 10 113 ?_;obtain⟨w6,hwl⟩:=eX (w5.setCell ⟨g,7,none⟩ (.slice a' (qMP (qCz pk true n i k) B (wb*Y)).length c'));have HR8:=hZ (HRn.o.setG HVn.o);rw[hwl]at HR8;clear HRn HVn HJn;refine qFd (by kernel_rfl) rfl (by kernel_rfl) (fun K hK=> ?_);go_simp;refine hK.out _ _ ?_;clear hK K
        try simp only[Act.put,List.setIfInBounds_toArray,List.set_cons_zero,List.set_cons_succ]
        clear hHeld mm mf hwl hwb4 hm12 hJI
        go_wp2_with fail
        go_roundw
        case rel=>exact⟨k+1,_,_,by omega,by go_num,hZ (by rw[qCv,qCz,HA.o,HBB.o,show qG2 pk true n i k=qJr pk (gB pk n i k)*gBy pk i k from rfl,show qG4 pk true n i k=qJr pk (gA pk n i k)*gBy pk i k from rfl,HA.o,HBB.o,HY.o,HWA.o,HWB.o];exact HR8.o)⟩
        case measure=>simp[intOf];omega
      ·have hltC:decide ((k:Int)<=((pk (8+5*i) 3:Nat):Int)/2)=false:=by simp;omega
       have HKK:Hid (k=gK pk i):=hZ (by omega);clear hgK hK0;obtain⟨at',ct,rfl,ht1,ht2⟩:=HR.o.t.form;obtain⟨ag,cg,rfl,hg1,hg2⟩:=HR.o.g_.form
       go_wp2_with fail
       refine(HV.o _ HR.o.gi.b _ (11+5*i) _ 10 (by omega) rfl (by omega) (by omega) (by omega)).mono ?_;rintro e w' ⟨rfl,rfl⟩;obtain⟨how,hhow⟩:=eX (pk (11+5*i) 10);have HH:=hZ hhow;have h10:how<10:=by rw[<-hhow];exact HP.o.lt _ _ (by omega)
       rw[hhow];clear hhow hltC;have x1:=HR.o.gi.x.cell 1;have m0:=HR.o.r.cell 0;have m1:=HR.o.r.cell 1;have m2:=HR.o.r.cell 2;have m3:=HR.o.r.cell 3;have m4:=HR.o.r.cell 4;have m5:=HR.o.r.cell 5;have m6:=HR.o.r.cell 6;have m7:=HR.o.r.cell 7;have m8:=HR.o.r.cell 8;have mf:=HR.o.r.frozen;by_cases h3:how<3
       ·have h3B:decide ((how:Int)<3)=true:=by simp;omega
        have h9B:((how:Int)==9)=false:=by simp;omega
        by_cases hb:bal=true\/how=0
        ·obtain⟨w2,hw2⟩:=eX ((w'.setCell ⟨g,5,none⟩ (.int .i64 2)).setCell ⟨g,8,none⟩ (.slice at' (qCv pk bal n i k).length ct))
         have hO:qAc (fun b=>b=g) w' w2:=by
          rw[<-hw2]
          repeat (refine qAc.trans ?_ (qA9 _ _ _ _))
          exact qAc.refl _ _
         have HE:=hZ (HR.o.any hO);have HGI:=hZ HE.o.1;have HRU:Hid (qDJ w2 (qCh pk bal n i) [nmV (ruleTx i),.bool false,.int .i64 0,.int .i64 0,.int .i64 1,.int .i64 2,.slice at' (qCv pk bal n i k).length ct,.slice ag (qCz pk bal n i k).length cg,.slice at' (qCv pk bal n i k).length ct]):=hZ (by
          rw[qO4 HH.o h3 hb,<-HKK.o];exact⟨_,_,_,rfl,HE.o.2.1,HE.o.2.2,HE.o.2.1⟩)
         have HW2:=hZ hw2;have HS2:Hid (w'.heap.size=w2.heap.size):=hZ (by rw[<-hw2];simp);clear hO HR HE hw2;rcases hb with rfl|h0
         ·skip
          obtain⟨css,hcl,hc9,hcw,hcr⟩:=HGI.o.rl;have HCW:=hZ hcw;have HCR:=hZ hcr;have HCL:=hZ hcl;have HC9:=hZ hc9;clear hcw hcr hcl hc9
          go_wp2_with (at_builtin;rw[HW2.o,HS2.o];refine qAn (W0:=w2) qDC rfl _ _ rfl _ 54 _ _ _ rfl rfl rfl (by simp[Value.oneCell',nmV]) HCW.o (Below.refl _ _) HGI.o.sz (by omega) (by omega) ?_)
          clear m0 m1 m2 m3 m4 m5 m6 m7 m8 mf x1;intro g7 cap7 w7 Hown7 HB7 HO7 hcap7 hat7;have HG8:=hZ (HGI.o.grow HCL.o HC9.o HCR.o HRU.o rfl HO7.o Hown7.o);have x7:qAf w7 (w.heap.size+1) 28 _:=HGI.o.x.only HO7.o (fun hs=>by have:=(HGI.o.row _ hs).1;omega);have x7f:=x7.frozen;have x7c:=x7.cell 1;clear HGI Hown7 HB7 HO7 hat7 x7
          go_wp2_with fail
          go_roundw
          case rel=>exact⟨i+1,_,_,by omega,hcap7,by go_num,HG8⟩
          case measure=>simp[intOf];omega
         ·have h0B:((how:Int)==0)=true:=by simp;omega
          clear h0;cases bal with
          |true=>
           skip
           obtain⟨css,hcl,hc9,hcw,hcr⟩:=HGI.o.rl;have HCW:=hZ hcw;have HCR:=hZ hcr;have HCL:=hZ hcl;have HC9:=hZ hc9;clear hcw hcr hcl hc9
           go_wp2_with (at_builtin;rw[HW2.o,HS2.o];refine qAn (W0:=w2) qDC rfl _ _ rfl _ 54 _ _ _ rfl rfl rfl (by simp[Value.oneCell',nmV]) HCW.o (Below.refl _ _) HGI.o.sz (by omega) (by omega) ?_)
           clear m0 m1 m2 m3 m4 m5 m6 m7 m8 mf x1;intro g7 cap7 w7 Hown7 HB7 HO7 hcap7 hat7;have HG8:=hZ (HGI.o.grow HCL.o HC9.o HCR.o HRU.o rfl HO7.o Hown7.o);have x7:qAf w7 (w.heap.size+1) 28 _:=HGI.o.x.only HO7.o (fun hs=>by have:=(HGI.o.row _ hs).1;omega);have x7f:=x7.frozen;have x7c:=x7.cell 1;clear HGI Hown7 HB7 HO7 hat7 x7
           go_wp2_with fail
           go_roundw
           case rel=>exact⟨i+1,_,_,by omega,hcap7,by go_num,HG8⟩
           case measure=>simp[intOf];omega
          |false=>
           skip
           obtain⟨css,hcl,hc9,hcw,hcr⟩:=HGI.o.rl;have HCW:=hZ hcw;have HCR:=hZ hcr;have HCL:=hZ hcl;have HC9:=hZ hc9;clear hcw hcr hcl hc9
           go_wp2_with (at_builtin;rw[HW2.o,HS2.o];refine qAn (W0:=w2) qDC rfl _ _ rfl _ 54 _ _ _ rfl rfl rfl (by simp[Value.oneCell',nmV]) HCW.o (Below.refl _ _) HGI.o.sz (by omega) (by omega) ?_)
           clear m0 m1 m2 m3 m4 m5 m6 m7 m8 mf x1;intro g7 cap7 w7 Hown7 HB7 HO7 hcap7 hat7;have HG8:=hZ (HGI.o.grow HCL.o HC9.o HCR.o HRU.o rfl HO7.o Hown7.o);have x7:qAf w7 (w.heap.size+1) 28 _:=HGI.o.x.only HO7.o (fun hs=>by have:=(HGI.o.row _ hs).1;omega);have x7f:=x7.frozen;have x7c:=x7.cell 1;clear HGI Hown7 HB7 HO7 hat7 x7
           go_wp2_with fail
           go_roundw
           case rel=>exact⟨i+1,_,_,by omega,hcap7,by go_num,HG8⟩
           case measure=>simp[intOf];omega
        ·obtain⟨w2,hw2⟩:=eX (w'.setCell ⟨g,5,none⟩ (.int .i64 2))
         have hO:qAc (fun b=>b=g) w' w2:=by
          rw[<-hw2]
          repeat (refine qAc.trans ?_ (qA9 _ _ _ _))
          exact qAc.refl _ _
         have HE:=hZ (HR.o.any hO);have HGI:=hZ HE.o.1;have HRU:Hid (qDJ w2 (qCh pk bal n i) [nmV (ruleTx i),.bool false,.int .i64 0,.int .i64 0,.int .i64 1,.int .i64 2,.slice at' (qCv pk bal n i k).length ct,.slice ag (qCz pk bal n i k).length cg,.slice none 0 0]):=hZ (by
          rw[qNz HH.o h3 hb,<-HKK.o];exact⟨_,_,_,rfl,HE.o.2.1,HE.o.2.2,qAb.nil _ _ (by omega)⟩)
         have HW2:=hZ hw2;have HS2:Hid (w'.heap.size=w2.heap.size):=hZ (by rw[<-hw2];simp);clear hO HR HE hw2;have h0B:((how:Int)==0)=false:=by simp;intro h;exact hb (.inr (by omega))
         obtain rfl:bal=false:=by cases bal<;>simp_all
         clear hb
         skip
         obtain⟨css,hcl,hc9,hcw,hcr⟩:=HGI.o.rl;have HCW:=hZ hcw;have HCR:=hZ hcr;have HCL:=hZ hcl;have HC9:=hZ hc9;clear hcw hcr hcl hc9
         go_wp2_with (at_builtin;rw[HW2.o,HS2.o];refine qAn (W0:=w2) qDC rfl _ _ rfl _ 54 _ _ _ rfl rfl rfl (by simp[Value.oneCell',nmV]) HCW.o (Below.refl _ _) HGI.o.sz (by omega) (by omega) ?_)
         clear m0 m1 m2 m3 m4 m5 m6 m7 m8 mf x1;intro g7 cap7 w7 Hown7 HB7 HO7 hcap7 hat7;have HG8:=hZ (HGI.o.grow HCL.o HC9.o HCR.o HRU.o rfl HO7.o Hown7.o);have x7:qAf w7 (w.heap.size+1) 28 _:=HGI.o.x.only HO7.o (fun hs=>by have:=(HGI.o.row _ hs).1;omega);have x7f:=x7.frozen;have x7c:=x7.cell 1;clear HGI Hown7 HB7 HO7 hat7 x7
         go_wp2_with fail
         go_roundw
         case rel=>exact⟨i+1,_,_,by omega,hcap7,by go_num,HG8⟩
         case measure=>simp[intOf];omega
       ·have h3B:decide ((how:Int)<3)=false:=by simp;omega
        by_cases h9:how=9
        ·have h9B:((how:Int)==9)=true:=by simp;omega
         have HH9:Hid (pk (11+5*i) 10=9):=hZ (by rw[HH.o,h9]);clear h9;replace m0:w'.cell? ⟨g,0,none⟩=some (.string ⟨(ruleTx i).toArray⟩):=m0;obtain⟨w2,hw2⟩:=eX (((((((((w'.setCell ⟨g,0,none⟩ (.string ⟨(ruleTx i).toArray⟩)).setCell ⟨g,1,none⟩ (.bool true)).setCell ⟨g,2,none⟩ (.int .i64 0)).setCell ⟨g,3,none⟩ (.int .i64 0)).setCell ⟨g,4,none⟩ (.int .i64 1)).setCell ⟨g,5,none⟩ (.int .i64 1)).setCell ⟨g,6,none⟩ (.slice none 0 0)).setCell ⟨g,7,none⟩ (.slice ag (qCz pk bal n i k).length cg)).setCell ⟨g,8,none⟩ (.slice none 0 0));have hO:qAc (fun b=>b=g) w' w2:=by
          rw[<-hw2]
          repeat (refine qAc.trans ?_ (qA9 _ _ _ _))
          exact qAc.refl _ _
         have HE:=hZ (HR.o.any hO);have HGI:=hZ HE.o.1;have HRU:Hid (qDJ w2 (qCh pk bal n i) [nmV (ruleTx i),.bool true,.int .i64 0,.int .i64 0,.int .i64 1,.int .i64 1,.slice none 0 0,.slice ag (qCz pk bal n i k).length cg,.slice none 0 0]):=hZ (by
          rw[qQE HH9.o,<-HKK.o];exact⟨_,_,_,rfl,qAb.nil _ _ (by omega),HE.o.2.2,qAb.nil _ _ (by omega)⟩)
         have HW2:=hZ hw2;have HS2:Hid (w'.heap.size=w2.heap.size):=hZ (by rw[<-hw2];simp);clear hO HR HE hw2
         skip
         obtain⟨css,hcl,hc9,hcw,hcr⟩:=HGI.o.rl;have HCW:=hZ hcw;have HCR:=hZ hcr;have HCL:=hZ hcl;have HC9:=hZ hc9;clear hcw hcr hcl hc9
         go_wp2_with (at_builtin;rw[HW2.o,HS2.o];refine qAn (W0:=w2) qDC rfl _ _ rfl _ 54 _ _ _ rfl rfl rfl (by simp[Value.oneCell',nmV]) HCW.o (Below.refl _ _) HGI.o.sz (by omega) (by omega) ?_)
         clear m0 m1 m2 m3 m4 m5 m6 m7 m8 mf x1;intro g7 cap7 w7 Hown7 HB7 HO7 hcap7 hat7;have HG8:=hZ (HGI.o.grow HCL.o HC9.o HCR.o HRU.o rfl HO7.o Hown7.o);have x7:qAf w7 (w.heap.size+1) 28 _:=HGI.o.x.only HO7.o (fun hs=>by have:=(HGI.o.row _ hs).1;omega);have x7f:=x7.frozen;have x7c:=x7.cell 1;clear HGI Hown7 HB7 HO7 hat7 x7
         go_wp2_with fail
         go_roundw
         case rel=>exact⟨i+1,_,_,by omega,hcap7,by go_num,HG8⟩
         case measure=>simp[intOf];omega
        ·have h9B:((how:Int)==9)=false:=by simp;omega
         have HRU:Hid (qDJ w' (qCh pk bal n i) [nmV (ruleTx i),.bool false,.int .i64 0,.int .i64 0,.int .i64 1,.int .i64 1,.slice at' (qCv pk bal n i k).length ct,.slice ag (qCz pk bal n i k).length cg,.slice none 0 0]):=hZ (by
          rw[qO5 HH.o h3 h9,<-HKK.o];exact⟨_,_,_,rfl,HR.o.t,HR.o.g_,qAb.nil _ _ (by omega)⟩)
         have HGI:=hZ HR.o.gi;clear HR;obtain⟨css,hcl,hc9,hcw,hcr⟩:=HGI.o.rl;have HCW:=hZ hcw;have HCR:=hZ hcr;have HCL:=hZ hcl;have HC9:=hZ hc9;clear hcw hcr hcl hc9
         go_wp2_with (at_builtin;skip;refine qAn (W0:=w') qDC rfl _ _ rfl _ 54 _ _ _ rfl rfl rfl (by simp[Value.oneCell',nmV]) HCW.o (Below.refl _ _) HGI.o.sz (by omega) (by omega) ?_)
         clear m0 m1 m2 m3 m4 m5 m6 m7 m8 mf x1;intro g7 cap7 w7 Hown7 HB7 HO7 hcap7 hat7;have HG8:=hZ (HGI.o.grow HCL.o HC9.o HCR.o HRU.o rfl HO7.o Hown7.o);have x7:qAf w7 (w.heap.size+1) 28 _:=HGI.o.x.only HO7.o (fun hs=>by have:=(HGI.o.row _ hs).1;omega);have x7f:=x7.frozen;have x7c:=x7.cell 1;clear HGI Hown7 HB7 HO7 hat7 x7
         go_wp2_with fail
         go_roundw
         case rel=>exact⟨i+1,_,_,by omega,hcap7,by go_num,HG8⟩
         case measure=>simp[intOf];omega
    ·have hltB:decide ((i:Int)<((pk 7 7:Nat):Int))=false:=by simp;omega
     obtain rfl:pk 7 7=i:=by omega
     have x0:=HG.o.x.cell 0;have x1:=HG.o.x.cell 1;have x2:=HG.o.x.cell 2;have x3:=HG.o.x.cell 3;have y0:=HG.o.y.cell 0;have y1:=HG.o.y.cell 1;have y2:=HG.o.y.cell 2;have y3:=HG.o.y.cell 3;have yf:=HG.o.y.frozen
     go_wp2_with fail
     obtain⟨w9,hw9⟩:=eX ((((w'.setCell ⟨w.heap.size,0,none⟩ (.slice gi n ci)).setCell ⟨w.heap.size,1,none⟩ (.slice ar (pk 7 7) cr)).setCell ⟨w.heap.size,2,none⟩ (.slice none 0 0)).setCell ⟨w.heap.size,3,none⟩ (.slice none 0 0));have hO:qAc (fun b=>b=w.heap.size) w' w9:=by rw[<-hw9];exact(((qA9 _ _ _ _).trans (qA9 _ _ _ _)).trans (qA9 _ _ _ _)).trans (qA9 _ _ _ _)
     have hy9:qAf w9 w.heap.size 28 [.slice gi n ci,.slice ar (pk 7 7) cr,.slice none 0 0,.slice none 0 0]:=by rw[<-hw9];exact(((HG.o.y.set 0 _).set 1 _).set 2 _).set 3 _
     rw[hw9];clear hw9 x0 x1 x2 x3 y0 y1 y2 y3 yf;have z0:w9.cell? ⟨w.heap.size,0,none⟩=some (.slice gi n ci):=hy9.cell 0;have z1:w9.cell? ⟨w.heap.size,1,none⟩=some (.slice ar (pk 7 7) cr):=hy9.cell 1;have z2:w9.cell? ⟨w.heap.size,2,none⟩=some (.slice none 0 0):=hy9.cell 2;have z3:w9.cell? ⟨w.heap.size,3,none⟩=some (.slice none 0 0):=hy9.cell 3;exact bodyPost_ret (v:=qBo (.slice gi n ci) (.slice ar (pk 7 7) cr)) (by simp[results,Tryz.results11,go_sem,qBo,z0,z1,z2,z3]) rfl ⟨⟨_,_,rfl,HG.o.cat HN.o rfl hO⟩,hO.below HG.o.b HG.o.b.size (fun k hk=>by omega)⟩
open Go.RowKit Go.Shelf
attribute [local go_sem] Oper.semAt_some
theorem qGG(n:Tx)(h:n∈qAy):qGr n:=by
 simp only[qAy,List.mem_cons,List.not_mem_nil,or_false]at h;rcases h with rfl|rfl|rfl|rfl|rfl|rfl<;>exact⟨by decide,by rfl⟩
theorem qRn{i:Nat}(h:i<7):i=0\/i=1\/i=2\/i=3\/i=4\/i=5\/i=6:=by omega
theorem qJC(i:Nat)(h:i<7):qGr (ruleTx i):=by
 rcases qRn h with rfl|rfl|rfl|rfl|rfl|rfl|rfl<;>exact⟨by decide,by rfl⟩
theorem qG3(pk:Nat->Nat->Nat)(bal:Bool)(n i:Nat):(qCh pk bal n i).name=ruleTx i:=by
 unfold qCh;simp only[]
 split<;>rfl
theorem qIn(k:Nat)(h:k<7):((List.range k).map ruleTx).Nodup:=by
 rcases qRn h with rfl|rfl|rfl|rfl|rfl|rfl|rfl<;>decide
theorem qF5{pk:Nat->Nat->Nat}{bal:Bool}(hp:qJm pk):qL8 (qBA pk bal):=by
 have h7:=hp.lt 7 7 (by omega);refine⟨qJZ hp,⟨fun n hn=>qGG n (List.mem_of_mem_take hn),fun r hr=> ?_⟩,?_,?_⟩
 ·obtain⟨i,hi,rfl⟩:=List.mem_map.1 hr
  rw[qG3];exact qJC i (by have:=List.mem_range.1 hi;omega)
 ·exact List.Nodup.sublist (List.take_sublist _ _) (by decide)
 ·have:(qBA pk bal).rules.map (fun x=>x.name)=(List.range (pk 7 7)).map ruleTx:=by
   simp only[qBA,List.map_map];exact List.map_congr_left (fun i _=>qG3 pk bal _ i)
  rw[this];exact qIn _ h7
theorem qGo(v:Value)(zs:List Int)(len:Nat)(bal:Bool)(w:World)(h:qBW w v zs len):
 Calls Tryz.prog 11 #[v,.bool bal] w fun e w'=>(∃vi vr,e=.returned (qBo vi vr)/\qAS w' vi vr (qBA (qQg zs len) bal))/\Below w.heap.size w w':=
 qKi v _ bal w (qHv zs len) (qMT h)
attribute [local go_sem] Oper.semAt_some
structure EfJ(Wb:World)(c:Cat)(R l n0:Nat)(rec:LoopState->Option Code->Loop)(k:Nat)(W:World):Prop where
 on:qAc (fun b=>b=R\/b=l\/n0<=b) Wb W
 sz:n0<=W.heap.size
 rd:W.heap[l]? =some (.loop (rec .ready none))
 m:∃lo:List Yw,lo.length=c.items.length/\EMt W (n0+1) R lo (qC0 c.items.length ((qCH c).take k))
theorem EfJ.only{Wb:World}{c:Cat}{R l n0:Nat}{rec:LoopState->Option Code->Loop}{k:Nat}{W W':World}(h:EfJ Wb c R l n0 rec k W)(ho:qAc (fun b=>b=n0) W W')(h1:R<n0)(h2:l<n0):EfJ Wb c R l n0 rec k W':=by
 obtain⟨lo,hl,hm⟩:=h.m;exact⟨h.on.trans (ho.mono (fun b hb=> .inr (.inr (Nat.le_of_eq hb.symm)))),Nat.le_trans h.sz ho.size,(ho.block _ (Array.getElem?_eq_some_iff.1 h.rd).1 (by omega)).trans h.rd,lo,hl,hm.only ho (by omega) (fun b hb=>by omega)⟩
theorem EMt.start{w:World}{B R n:Nat}(h:qAf w R 22 (List.replicate n (.slice none 0 0))):EMt w B R (List.replicate n (none,0)) (List.replicate n []):=by
 refine⟨by simp,?_,fun i h1 h2=> ?_,fun i j h1 h2 k1 k2 g hn e1=> ?_⟩
 ·have e:List.zipWith xV (List.replicate n (none,0)) (List.replicate n [])=List.replicate n (.slice none 0 0):=by
   refine List.ext_getElem (by simp) (fun k k1 k2=> ?_);simp[xV]
  rw[e];exact h
 ·simp only[List.getElem_replicate,List.length_nil,List.map_nil,xV]
  exact World.ownsRow_nil _ _ _ _
 ·simp[xV,Value.ownBlock]at e1
theorem qPn(n:Nat):qC0 n []=List.replicate n []:=by
 refine List.ext_getElem (by simp[qC0]) (fun k h1 h2=> ?_);simp[qC0]
theorem qQO{c:Cat}{k i:Nat}{f:Nat->Int}(h:(qC4 c)[k]? =some (i,f)):∃hk:k<(qCH c).length,(qCH c)[k]=f:=by
 obtain⟨h1,h2⟩:=List.getElem?_eq_some_iff.1 h;exact⟨by unfold qCH;rw[List.length_map];exact h1,by simp only[qCH,List.getElem_map,h2]⟩
theorem qHH(vi vr:Value)(c:Cat)(w:World)(hc:qAS w vi vr c)(hf:qL8 c)(hK:qAZ w):
 CallsIn Fence.wide 31 Tryz.prog 17 #[qBo vi vr] w fun e w'=>(∃u,e=.returned (.tuple #[u,.int .i64 0])/\qA8 w' u (qC0 c.items.length (qCH c)))/\Below w.heap.size w w':=by
 obtain⟨ai,ci,rfl,hi1,hi2⟩:=hc.items.form;obtain⟨ar,cr,rfl,hr1,hr2⟩:=hc.rules.form;have HC:=hZ hc;have HF:=hZ hf;have HK:=hZ hK;have hli:=hf.good.items;clear hc hf hK;unfold qBo;refine callsIn_of_wp_marks Tryz.func17 rfl trivial ?_ rfl;simp only[Tryz.ntmps17,List.size_toArray,List.length_cons,List.length_nil,Nat.reduceAdd,Nat.reduceSub,Array.replicate_succ,Array.replicate_zero,List.push_toArray,List.append_toArray,List.nil_append,List.cons_append];refine wpIn_wide.2 ?_;obtain⟨w1,hw1⟩:=eX (w.alloc (.cells #[.slice ai c.items.length ci,.slice ar c.rules.length cr,.slice none 0 0,.slice none 0 0] 28));have HB:Hid (Below w.heap.size w w1):=hZ (by rw[<-hw1];exact aR);have HX:Hid (qBw w1 w.heap.size (.slice ai c.items.length ci) (.slice ar c.rules.length cr)):=hZ (by rw[<-hw1];exact qBw.new w _ _);have m0:=HX.o.c0;have m1:=HX.o.c1;have m2:=HX.o.c2;have m3:=HX.o.c3;have mlt:=HX.o.lt
 go_wp2_with fail
 clear hw1;refine(qDl _ _ c w1 (HC.o.below HB.o) HF.o.good HF.o.named HF.o.ni HF.o.nr (HK.o.keep HB.o)).mono ?_;rintro e w2 ⟨rfl,hB⟩;replace HB:=bT HB hB;replace HX:=hZ (HX.o.below hB);clear hB m0 m1 m2 m3 mlt;have m0:=HX.o.c0;have m1:=HX.o.c1;have m2:=HX.o.c2;have m3:=HX.o.c3;have mlt:=HX.o.lt
 go_wp2_with (at_make;refine qC5 rfl rfl c.items.length rfl rfl rfl rfl (by omega) ?_)
 intro w3 hmk hB hlt3;obtain⟨R,hR⟩:=eX w2.heap.size;have hBr:=hB;rw[hR]at hmk hlt3 hBr ⊢;replace HB:=bT HB hB;replace HX:=hZ (HX.o.below hB);have HMK:=hZ hmk;have HXR:Hid (w.heap.size<R):=hZ (by omega);clear hB hBr hmk m0 m1 m2 m3 mlt;have m0:=HX.o.c0;have m1:=HX.o.c1;have m2:=HX.o.c2;have m3:=HX.o.c3;have mlt:=HX.o.lt;obtain⟨N,hNN⟩:=eX c.items.length;have HNN:=hZ hNN;obtain⟨wm,hwm⟩:=eX (w3.alloc (.cells #[.slice (some ⟨R,0,none⟩) N N] 30));obtain⟨bm,hbm⟩:=eX w3.heap.size;have hMB:One wm bm 30 (.slice (some ⟨R,0,none⟩) N N):=by rw[<-hwm,<-hbm];exact One.new w3 _ _
 have hBm:Below w3.heap.size w3 wm:=by rw[<-hwm];exact aR
 rw[hbm]at hlt3;replace HX:=hZ (HX.o.below hBm);clear m0 m1 m2 m3 mlt;have m0:=HX.o.c0;have m1:=HX.o.c1;have m2:=HX.o.c2;have m3:=HX.o.c3;have mlt:=HX.o.lt;rw[hNN]at hli m0
 go_wp2_with fail
 refine(qDT _ _ _ _ _ _ _).mono ?_;rintro e w' ⟨rfl,hw'⟩;obtain⟨wq,hwq⟩:=eX w';rw[hwq]at hw' ⊢;clear hwq;have hBq:Below wm.heap.size wm wq:=by rw[<-hw'];exact aR
 have hbc:qBw wq wm.heap.size (.slice ai N ci) (.slice ar c.rules.length cr):=by rw[<-hw'];exact qBw.new _ _ _
 have hzq:wq.heap.size=wm.heap.size+1:=by rw[<-hw'];simp
 have hzm:wm.heap.size=bm+1:=by rw[<-hwm,<-hbm];simp
 rw[hzm]at hbc hBq hzq;have HMKm:=hZ (HMK.o.below hBm (by rw[hbm];exact hlt3));replace HB:=hZ (HB.o.trans (hBm.mono HB.o.size))
 go_wp2_with fail
 refine(wpIn_wide (n:=31)).1 ?_;refine qDr rfl (by omega) (gf:=109) (lb:=#[.pointer (some ⟨bm+1,0,none⟩)]) rfl trivial (enters_of Tryz.func109 (by kernel_rfl) rfl) ?_;intro fn _;generalize hrec:qEF fn _ _ _ _ _=rec;obtain⟨Wb,hWb⟩:=eX ((wq.alloc (.deferred (some []))).alloc (.loop (rec .ready none)));rw[hWb];obtain⟨lD,hlD⟩:=eX wq.heap.size;have hBb:Below lD wq Wb:=by rw[<-hWb,<-hlD];exact aR.alloc (by simp) _
 have hD:Wb.heap[lD]? =some (.deferred (some [])):=by
  rw[<-hWb,<-hlD];exact(Below.heap_alloc _ _ _ (by simp)).trans (World.alloc_heap_new _ _)
 have hL:Wb.heap[lD+1]? =some (.loop (rec .ready none)):=by
  have h9:=World.alloc_heap_new (wq.alloc (.deferred (some []))) (.loop (rec .ready none));rw[hWb]at h9;simpa[hlD]using h9
 have hzb:Wb.heap.size=lD+1+1:=by rw[<-hWb];simp[hlD]
 rw[hlD]at hrec ⊢;obtain⟨n0,hn0⟩:=eX (lD+1+1);obtain⟨l,hl⟩:=eX (lD+1);obtain⟨bc,hbcq⟩:=eX (bm+1);rw[hbcq]at hrec ⊢;rw[hl]at hL ⊢;rw[hn0]at hzb;rw[hbcq]at hbc hzm hzq hBq;have hlD2:lD=bc+1:=by omega
 have hB2b:Below bc wm Wb:=by
  exact hBq.trans (hBb.mono (by omega))
 have hbelb:Below w.heap.size w Wb:=HB.o.trans (hB2b.mono (by have:=HB.o.size;omega));have hbcb:=hbc.below (show Below wq.heap.size wq Wb by rw[hlD];exact hBb);have hMBb:One Wb bm 30 (.slice (some ⟨R,0,none⟩) N N):=hMB.below hB2b (by omega);have hMKb:=HMKm.o.below hB2b (by omega);have HBE:=hZ hbelb;have HBC:=hZ hbcb;have HMBb:=hZ hMBb;have HDb:=hZ hD;have hxr:=HXR.o;have hbase:=HBE.o.size;have HJ0:Hid (EfJ Wb c R l n0 rec 0 Wb):=hZ ⟨qAc.refl _ _,by omega,hL,List.replicate N (none,0),by rw[List.length_replicate,hNN],by rw[List.take_zero,qPn,hNN];exact EMt.start (by rw[<-hNN];exact hMKb)⟩;have HZ:=hZ hzb;clear hBq hbc hw' hzq hWb hBb hD hL hzb hB2b hbelb hbcb hMBb hMKb HMKm HX hMB hBm HMK hwm m0 m1 m2 m3 mlt hlD;have hY:∀(k i:Nat) (f:Nat->Int) (W:World),(qC4 c)[k]? =some (i,f)->EfJ Wb c R l n0 rec k W->qAf W n0 3 (qBa c.items.length f)->YieldAt Fence.wide 29 Tryz.prog l #[.int .i64 (i:Int),.slice (some ⟨n0,0,none⟩) c.items.length c.items.length] W fun e W'=>
  ((e=.returned (.bool true)/\EfJ Wb c R l n0 rec (k+1) W')\/(e=.returned (.bool false)/\False))/\qBG n0 W W':=by
  intro k i f W hk hJ hbk;have hl9:=hJ.rd;rw[<-hrec]at hl9;refine qB8 trivial hl9 rfl ?_;rw[hrec]at hl9 ⊢;have Hrec:=hZ hrec;clear hrec;obtain⟨W2,hW2⟩:=eX (W.putObj l (.loop (rec .busy none)));have hO2:qAc (fun b=>b=l) W W2:=by rw[<-hW2];exact qAo _ _ _
  have hll:l<W.heap.size:=by have:=hJ.sz;omega
  have hl2:W2.heap[l]? =some (.loop (rec .busy none)):=by rw[<-hW2];exact World.putObj_heap_same hll
  have HJ:=hZ hJ;have HO2:=hZ hO2;have Hl2:=hZ hl2;have Hl9:=hZ hl9;have Hk:=hZ hk;have Hbk:=hZ (hbk.only hO2 (by omega));have Hb2:Hid (Below w.heap.size w W2):=hZ ((hJ.on.trans (hO2.mono (fun b hb=> .inr (.inl hb)))).below HBE.o HBE.o.size (fun b hb=>by omega));have HMW:Hid (One W2 bm 30 (.slice (some ⟨R,0,none⟩) N N)):=hZ (hO2.one (hJ.on.one HMBb.o (by omega)) (by omega));have hsz:=hJ.sz;clear hl9 hll hJ hk hbk hO2 hl2
  gi_wp2
  refine⟨Hl9.o,?_⟩;clear hW2
  repeat (first|go_values|gi_guarded|gi_step|gi_upon)
  obtain⟨hkl,hkf⟩:=qQO Hk.o;have HKL:=hZ hkl;have HKF:=hZ hkf;have HM2:Hid (∃lo:List Yw,lo.length=N/\EMt W2 (n0+1) R lo (qHc N (qCH c) k 0)):=hZ (by
   obtain⟨lo,h1,h2⟩:=HJ.o.m;rw[hNN]at h1;refine⟨lo,h1,?_⟩;rw[qNY,<-hNN];exact h2.only HO2.o (by omega) (fun b hb=>by omega))
  have HKP:Hid (qBG n0 W2 W2):=hZ ⟨Nat.le_refl _,fun _ _ _ _ h _=>h⟩;have HON:Hid (qAc (fun b=>b=R\/n0<=b) W2 W2):=hZ (qAc.refl _ _);rw[hNN]at Hbk;clear hkf
  gi_loopw [25] (fun iv wr=>∃j:Nat,j<=N/\iv=.int .i64 j/\Hid (qBG n0 W2 wr)/\Hid (qAc (fun b=>b=R\/n0<=b) W2 wr)/\Hid (∃lo:List Yw,lo.length=N/\EMt wr (n0+1) R lo (qHc N (qCH c) k j))) (fun iv _=>N-(intOf iv).toNat)
  case atStart=>exact⟨0,by omega,rfl,HKP,HON,HM2⟩
  case round=>
   clear HKP HON HM2;obtain⟨j,hj,rfl,HKP,HON,HM⟩:=hrel;obtain⟨wl,rfl⟩:=eY wr;by_cases hlt:j<N
   ·have i1:(0:Int)<=(j:Int):=by omega
    have i2:(j:Int)<(N:Int):=by omega
    have y2:=(HKP.o.2 _ _ _ (Nat.le_refl _) Hbk.o (.inl rfl)).cell j;rw[qBC _ _ _ hlt]at y2;have hMW:=HON.o.one HMW.o (by omega);have mw:=hMW.cell;obtain⟨lo,hlo,hm⟩:=HM.o;have hjl:j<lo.length:=by omega
    have hjm:j<(qHc N (qCH c) k j).length:=by rw[qK7];exact hlt
    have hrl:=qPm hjm (Nat.le_of_lt HKL.o);have hk44:k<=44:=by have:=qJ4 HF.o.good;have:=HKL.o;omega
    have hat:=hm.at_ j hjl hjm;obtain⟨⟨ra,rc⟩,hx⟩:∃x,lo[j]=x:=⟨_,rfl⟩;have hxv:xV lo[j] (qHc N (qCH c) k j)[j]=.slice ra k rc:=by rw[hx];simp only[xV,hrl]
    rw[hxv]at hat;have HXV:=hZ hxv;have HRW:=hZ (hm.row j hjl hjm);rw[hxv,hrl]at HRW;have HMM:=hZ hm;have HRL:=hZ hrl;have hwl:n0<wl.heap.size:=by have:=Hbk.o.lt;have:=HKP.o.1;omega
    obtain⟨z,hz⟩:=eX (f j);rw[hz]at y2;have HZZ:=hZ hz;have HRlt:=hZ (hm.blk.lt);have hbml:bm<wl.heap.size:=by omega
    clear hx hxv hm hrl hz hMW
    gi_wp2
    repeat (first|go_values|gi_guarded|gi_step|gi_upon)
    clear y2;refine qLs 10 (fun x=>x.cell? ⟨bm,0,none⟩=some (.slice (some ⟨R,0,none⟩) N N)/\x.cell? ⟨R,j,none⟩=some (.slice ra k rc)) (by kernel_rfl) (by kernel_rfl) (fun _ _ h=>h) ⟨mw,hat⟩ (fun hHeld=> ?_);refine kU 0 30 ?_;refine kU 1 31 ?_;refine kU 2 32 ?_;refine kU 3 33 ?_;refine kU 4 34 ?_;refine kU 5 35 ?_;refine kU 6 36 ?_;refine qA2 7 (by kernel_rfl) rfl (fun K hK=> ?_);go_simp;obtain⟨w7,hw7⟩:=eX ((wl.alloc (.cells #[.int .i64 z] 3)).drew);have HK7:Hid (qAf w7 wl.heap.size 3 [.int .i64 z]):=hZ (by rw[<-hw7];exact(qAf.new wl _ _).drew);have hB7:Below wl.heap.size wl w7:=by rw[<-hw7];exact aR.drew
    have hO7:qAc (fun _=>False) wl w7:=qAc.of_below hB7;have hs7:=hB7.size;have HO7:=hZ hO7
    try rw[hw7]
    clear hw7 hB7 hO7 hHeld;have HS7:Hid (w7.cell? ⟨bm,0,none⟩=some (.slice (some ⟨R,0,none⟩) N N)/\w7.cell? ⟨R,j,none⟩=some (.slice ra k rc)):=hZ ⟨(HO7.o.cell (p:=⟨bm,0,none⟩) (fun h=>h) hbml).trans mw,(HO7.o.cell (p:=⟨R,j,none⟩) (fun h=>h) HRlt.o).trans hat⟩
    go_wp2_with fail
    refine hK.out _ _ (HS7.o) (fun hHeld=> ?_);clear hK K
    try simp only[Act.put,sX1,sX2,sX3]
    have HRW7:=hZ (HO7.o.own HRW.o (fun _ _ h=>h));refine qA2 8 (by kernel_rfl) rfl (fun K hK=> ?_);refine qLr qEP rfl _ _ rfl [.int .i64 z] wl.heap.size _ _ _ rfl rfl HK7.o rfl (by simp[Value.oneCell']) HRW7.o (by omega) (by omega) (by omega) ?_;intro g8 cap8 w8 Ho8 Hon8 Hat8;clear hHeld;have HS8:Hid (w8.cell? ⟨bm,0,none⟩=some (.slice (some ⟨R,0,none⟩) N N)/\w8.cell? ⟨R,j,none⟩=some (.slice ra k rc)):=hZ ⟨(Hon8.o.cell (p:=⟨bm,0,none⟩) (fun h=>by have h2:n0+1<=bm:=(HRW7.o.lt _ h).1;omega) (Nat.lt_of_lt_of_le hbml hs7)).trans HS7.o.1,(Hon8.o.cell (p:=⟨R,j,none⟩) (fun h=>by have h2:n0+1<=R:=(HRW7.o.lt _ h).1;omega) (Nat.lt_of_lt_of_le HRlt.o hs7)).trans HS7.o.2⟩
    go_wp2_with fail
    refine hK.out _ _ (HS8.o) (fun hHeld=> ?_);clear hK K
    try simp only[Act.put,sX1,sX2,sX3]
    refine kU 9 39 ?_;have HM7:=hZ (HMM.o.only HO7.o (fun h=>h) (fun _ h=>h.elim));have hM9:=HM7.o.app hjl hjm (g:=g8) (cap:=cap8) (z:=z) (by omega) (by rw[HRL.o];exact Ho8.o) (by rw[HXV.o];exact Hon8.o) (by rw[HXV.o];exact Hat8.o);have hK8:qBG n0 W2 w8:=HM7.o.keeps (R':=R) (HKP.o.set HO7.o (fun _ _ h=>h)) rfl hjl hjm (by rw[HXV.o];exact Hon8.o);have e3:=((HM7.o.blk.only (S:=fun b=>(Value.slice ra k rc).ownBlock=some b) Hon8.o (fun h=>by have:=(HRW7.o.lt _ h).1;omega))).frozen j;rw[HRL.o]at hM9;obtain⟨w9,hw9⟩:=eX (w8.setCell ⟨R,j,none⟩ (.slice (some ⟨g8,0,none⟩) (k+1) cap8));have hO9:qAc (fun b=>b=R) w8 w9:=by rw[<-hw9];exact(qAc.refl (fun b=>b=R) w8).set (p:=⟨R,j,none⟩) rfl _
    rw[hw9]at hM9;have HM9:Hid (∃lo:List Yw,lo.length=N/\EMt w9 (n0+1) R lo (qHc N (qCH c) k (j+1))):=hZ ⟨lo.set j (some ⟨g8,0,none⟩,cap8),by rw[List.length_set];exact hlo,by rw[<-qNZ hjm HKL.o,HKF.o,HZZ.o];exact hM9⟩;have HK9:Hid (qBG n0 W2 w9):=hZ (hK8.set hO9 (fun b hb=>by omega));have HO9:Hid (qAc (fun b=>b=R\/n0<=b) W2 w9):=hZ (((HON.o.trans (HO7.o.mono (fun _ h=>h.elim))).trans (Hon8.o.mono (fun b h=>by have:=(HRW7.o.lt _ h).1;omega))).trans (hO9.mono (fun b h=> .inl h)));clear hHeld;have e4:=HS8.o.2;refine qFd (by kernel_rfl) rfl (by kernel_rfl) (fun K hK=> ?_);go_simp;refine hK.out _ _ ?_;clear hK K
    try simp only[Act.put,sX1,sX2,sX3]
    clear e3 e4 hM9 hK8 hO9 HM7 HS8 HS7 HRW7 HRW HK7 HKP HON HM HMM hat mw
    try rw[hw9]
    clear hw9
    gi_wp2
    repeat (first|go_values|gi_guarded|gi_step|gi_upon)
    go_roundw
    case rel=>exact⟨j+1,by omega,by go_num,HK9,HO9,HM9⟩
    case measure=>simp[intOf];omega
   ·have hje:j=N:=by omega
    subst hje
    gi_wp2
    repeat (first|go_values|gi_guarded|gi_step|gi_upon)
    have hlw:wl.heap[l]? =some (.loop (rec .busy none)):=(HON.o.block _ (Array.getElem?_eq_some_iff.1 Hl2.o).1 (by omega)).trans Hl2.o;refine⟨hlw,?_⟩;have hOY:=qAo wl l (.loop (rec .ready none));have hrY:(wl.putObj l (.loop (rec .ready none))).heap[l]? =some (.loop (rec .ready none)):=World.putObj_heap_same (Array.getElem?_eq_some_iff.1 hlw).1;obtain⟨Y,hY⟩:=eX (wl.putObj l (.loop (rec .ready none)));rw[hY]at hOY hrY ⊢;have hKY:qBG n0 W Y:=(HKP.o.pre HO2.o (fun b hb=>by omega)).set hOY (fun b hb=>by omega);obtain⟨lo,hlo,hm⟩:=HM.o;refine⟨⟨rfl,HJ.o.on.trans (((HO2.o.mono (fun b hb=> .inr (.inl hb))).trans (HON.o.mono (fun b hb=>by omega))).trans (hOY.mono (fun b hb=> .inr (.inl hb)))),Nat.le_trans hsz hKY.1,hrY,lo,by rw[hNN];exact hlo,?_⟩,hKY⟩;rw[qN0]at hm;rw[hNN];exact hm.only hOY (by omega) (fun b hb=>by omega)
 have hE:qR2 n0 l bc w (.slice ai c.items.length ci) (.slice ar c.rules.length cr) c (EfJ Wb c R l n0 rec) (fun _=>False):=by
  refine⟨fun k W W' h ho=>h.only ho (by omega) (by omega),HC.o,by have:=HBE.o.size;have:=HZ.o;omega,fun k W h=>⟨h.sz,?_,h.on.below HBE.o HBE.o.size (fun b hb=>by omega)⟩,by omega,hY⟩;have hx:=HBC.o;have hnb:¬((fun b=>b=R\/b=l\/n0<=b) bc):=by simp only[];omega
  rw[hNN];exact⟨Nat.lt_of_lt_of_le hx.lt h.on.size,(h.on.cell (p:=⟨bc,0,none⟩) hnb hx.lt).trans hx.c0,(h.on.cell (p:=⟨bc,1,none⟩) hnb hx.lt).trans hx.c1,(h.on.cell (p:=⟨bc,2,none⟩) hnb hx.lt).trans hx.c2,(h.on.cell (p:=⟨bc,3,none⟩) hnb hx.lt).trans hx.c3⟩
 have hsq:=qDb (l:=l) (bc:=bc) Wb (by rw[HZ.o];exact hE) HF.o.good HJ0.o;refine(callsIn_wide.2 (by simpa using hsq)).mono ?_;clear hsq hE hY HJ0;rintro e W3 ⟨hv,hE⟩;refine⟨hv,?_⟩;clear hv hrec;refine .inl ⟨hE.rd,?_⟩;have hO4:=qAo W3 l (.loop (rec .exhausted none));obtain⟨W4,hW4⟩:=eX (W3.putObj l (.loop (rec .exhausted none)));rw[hW4]at hO4 ⊢;have HO4:=hZ (hE.on.trans (hO4.mono (fun b hb=> .inr (.inl hb))));obtain⟨lo,hlo,hm⟩:=hE.m;have hm4:=hm.only hO4 (by omega) (fun b hb=>by omega);have hfull:(qCH c).take (qC4 c).length=qCH c:=by
  rw[List.take_of_length_le];unfold qCH;rw[List.length_map];exact Nat.le_refl _
 rw[hfull,hNN]at hm4;rw[hNN]at hlo;have HM4:=hZ hm4;have p3:=(HO4.o.one HMBb.o (by omega)).cell;clear hW4 hO4 hE hm hm4 hfull;simp only[Exit.inBlock,Exit.then]
 repeat (first|go_values|go_step)
 clear p3;have hDX:W4.heap[lD]? =some (.deferred (some [])):=(HO4.o.block _ (by have:=HZ.o;omega) (by omega)).trans HDb.o;refine⟨by simp,.inl ⟨_,_,rfl,run_takeDeferred hDX,?_⟩⟩;have hO5:=qAo W4 lD (.deferred none);obtain⟨Y,hY⟩:=eX (W4.putObj lD (.deferred none));rw[hY]at hO5 ⊢;have hBY:Below w.heap.size w Y:=by
  have h1:qAc (fun b=>b=R\/b=l\/n0<=b\/b=lD) Wb Y:=(HO4.o.mono (fun b hb=>by omega)).trans (hO5.mono (fun b hb=>by omega));exact h1.below HBE.o HBE.o.size (fun b hb=>by omega)
 have hmY:=(HM4.o.only hO5 (by omega) (fun b hb=>by omega)).mat (by omega);rw[qAQ]at hmY;refine⟨.tuple #[.slice (some ⟨R,0,none⟩) N N,.int .i64 0],by simp[results,Tryz.results17,go_sem],⟨_,rfl,?_⟩,hBY⟩;rw[hNN];exact hmY
theorem qE5(vi vr:Value)(c:Cat)(w:World)(hc:qAS w vi vr c)(hf:qL8 c)(hK:qAZ w):
 Calls Tryz.prog 17 #[qBo vi vr] w fun e w'=>(∃u,e=.returned (.tuple #[u,.int .i64 0])/\qA8 w' u (qC0 c.items.length (qCH c)))/\Below w.heap.size w w':=callsIn_wide.1 (qHH vi vr c w hc hf hK)
theorem qIH(vi vr:Value)(c:Cat)(w:World)(hc:qAS w vi vr c)(hg:qHf c)(hn:qJn c)(hd:¬c.items.Nodup)(hK:qAZ w):
 Calls Tryz.prog 17 #[qBo vi vr] w fun e w'=>e=.returned (.tuple #[.slice none 0 0,.int .i64 8])/\Below w.heap.size w w':=by
 obtain⟨ai,ci,rfl,hi1,hi2⟩:=hc.items.form;obtain⟨ar,cr,rfl,hr1,hr2⟩:=hc.rules.form;have HC:=hZ hc;have HK:=hZ hK;clear hc hK;unfold qBo;obtain⟨w1,hw1⟩:=eX (w.alloc (.cells #[.slice ai c.items.length ci,.slice ar c.rules.length cr,.slice none 0 0,.slice none 0 0] 28));have HB:Hid (Below w.heap.size w w1):=hZ (by rw[<-hw1];exact aR);have HX:Hid (qBw w1 w.heap.size (.slice ai c.items.length ci) (.slice ar c.rules.length cr)):=hZ (by rw[<-hw1];exact qBw.new w _ _);have m0:=HX.o.c0;have m1:=HX.o.c1;have m2:=HX.o.c2;have m3:=HX.o.c3;have mlt:=HX.o.lt
 go_enter Tryz.func17,Tryz.ntmps17
 go_wp2_with fail
 clear hw1;refine(qIb _ _ c w1 (HC.o.below HB.o) hg hn hd (HK.o.keep HB.o)).mono ?_;rintro e w2 ⟨rfl,hB⟩;replace HB:=bT HB hB;clear hB m0 m1 m2 m3 mlt
 go_wp2_with fail
 exact bodyPost_ret (v:=.tuple #[.slice none 0 0,.int .i64 8]) (by simp[results,Tryz.results17,go_sem]) rfl ⟨rfl,HB.o⟩
def qAt(n:Nat):Cat:=⟨[[111,114,101],[98,97,114],[99,111,105,110]],[⟨[115,109,101,108,116],false,0,n,[⟨0,3⟩],[⟨1,1⟩],[]⟩,⟨[115,101,108,108],false,0,1,[⟨1,1⟩],[⟨2,6⟩],[]⟩]⟩
theorem qAf.newL{w:World}{g:Nat}(h:w.heap.size=g)(t:TypeId)(cs:List Value):qAf (w.alloc (.cells cs.toArray t)) g t cs:=h▸qAf.new w t cs
theorem qCs{w:World}{g:Nat}{t:TypeId}{a:Amt}(h:qAf w g t (qFa a)):qAl w (.slice (some ⟨g,0,none⟩) 1 1) [a]:=by
 refine qBc (xs:=[a]) (css:=[qFa a]) (by simpa using h) (by simp[qFa]) rfl ?_ (by simp) (by simp);intro j h1 h2;obtain rfl:j=0:=by simp at h1;omega
 rfl
theorem qJj(w:World):qAl w (.slice none 0 0) []:=qAb.nil _ _ (by omega)
theorem qQI(n:Nat)(w:World)(o0 o4 o7:Obj)(t1 t2 t3 t5 t6 t8:TypeId)(g:Nat)(hg:w.heap.size=g):
 qAS (((((((((w.alloc o0).alloc (.cells #[.string ⟨#[111,114,101]⟩,.bool false,.bool false,.bool false,.int .i64 0,.int .i64 0,.int .i64 0,.string ⟨#[98,97,114]⟩,.bool false,.bool false,.bool false,.int .i64 0,.int .i64 0,.int .i64 0,.string ⟨#[99,111,105,110]⟩,.bool false,.bool false,.bool false,.int .i64 0,.int .i64 0,.int .i64 0] t1)).alloc
  (.cells #[.int .i64 0,.int .i64 3] t2)).alloc (.cells #[.int .i64 1,.int .i64 1] t3)).alloc o4).alloc (.cells #[.int .i64 1,.int .i64 1] t5)).alloc (.cells #[.int .i64 2,.int .i64 6] t6)).alloc o7).alloc
  (.cells #[.string ⟨#[115,109,101,108,116]⟩,.bool false,.int .i64 0,.int .i64 0,.int .i64 1,.int .i64 n,.slice (some ⟨g+1+1,0,none⟩) 1 1,.slice (some ⟨g+1+1+1,0,none⟩) 1 1,.slice none 0 0,
   .string ⟨#[115,101,108,108]⟩,.bool false,.int .i64 0,.int .i64 0,.int .i64 1,.int .i64 1,.slice (some ⟨g+1+1+1+1+1,0,none⟩) 1 1,.slice (some ⟨g+1+1+1+1+1+1,0,none⟩) 1 1,.slice none 0 0] t8))
 (.slice (some ⟨g+1,0,none⟩) 3 3) (.slice (some ⟨g+1+1+1+1+1+1+1+1,0,none⟩) 2 2) (qAt n):=by
 have h1:=qAf.newL (w:=w.alloc o0) (g:=g+1) (by simp[hg]) t1 [.string ⟨#[111,114,101]⟩,.bool false,.bool false,.bool false,.int .i64 0,.int .i64 0,.int .i64 0,.string ⟨#[98,97,114]⟩,.bool false,.bool false,.bool false,.int .i64 0,.int .i64 0,.int .i64 0,.string ⟨#[99,111,105,110]⟩,.bool false,.bool false,.bool false,.int .i64 0,.int .i64 0,.int .i64 0];generalize hw1:(w.alloc o0).alloc _=w1 at h1;have s1:w1.heap.size=g+1+1:=by rw[<-hw1];simp[hg]
 have h2:=qAf.newL (w:=w1) s1 t2 (qFa ⟨0,3⟩);replace h1:=h1.alloc (.cells #[.int .i64 0,.int .i64 3] t2);generalize hw2:w1.alloc (.cells #[.int .i64 0,.int .i64 3] t2)=w2 at h1;have s2:w2.heap.size=g+1+1+1:=by rw[<-hw2];simp[s1]
 replace h2:qAf w2 _ _ _:=hw2▸h2;have h3:=qAf.newL (w:=w2) s2 t3 (qFa ⟨1,1⟩);replace h1:=(h1.alloc (.cells #[.int .i64 1,.int .i64 1] t3)).alloc o4;replace h2:=(h2.alloc (.cells #[.int .i64 1,.int .i64 1] t3)).alloc o4;replace h3:=h3.alloc o4;generalize hw4:(w2.alloc (.cells #[.int .i64 1,.int .i64 1] t3)).alloc o4=w4 at h1 h2;replace h3:qAf w4 _ _ _:=hw4▸h3;have s4:w4.heap.size=g+1+1+1+1+1:=by rw[<-hw4];simp[s2]
 have h5:=qAf.newL (w:=w4) s4 t5 (qFa ⟨1,1⟩);replace h1:=h1.alloc (.cells #[.int .i64 1,.int .i64 1] t5);replace h2:=h2.alloc (.cells #[.int .i64 1,.int .i64 1] t5);replace h3:=h3.alloc (.cells #[.int .i64 1,.int .i64 1] t5);generalize hw5:w4.alloc (.cells #[.int .i64 1,.int .i64 1] t5)=w5 at h1 h2 h3;replace h5:qAf w5 _ _ _:=hw5▸h5;have s5:w5.heap.size=g+1+1+1+1+1+1:=by rw[<-hw5];simp[s4]
 have h6:=qAf.newL (w:=w5) s5 t6 (qFa ⟨2,6⟩);replace h1:=(h1.alloc (.cells #[.int .i64 2,.int .i64 6] t6)).alloc o7;replace h2:=(h2.alloc (.cells #[.int .i64 2,.int .i64 6] t6)).alloc o7;replace h3:=(h3.alloc (.cells #[.int .i64 2,.int .i64 6] t6)).alloc o7;replace h5:=(h5.alloc (.cells #[.int .i64 2,.int .i64 6] t6)).alloc o7;replace h6:=h6.alloc o7;generalize hw7:(w5.alloc (.cells #[.int .i64 2,.int .i64 6] t6)).alloc o7=w7 at h1 h2 h3 h5;replace h6:qAf w7 _ _ _:=hw7▸h6;have s7:w7.heap.size=g+1+1+1+1+1+1+1+1:=by rw[<-hw7];simp[s5]
 have h8:=qAf.newL (w:=w7) s7 t8 (qP9 ⟨[115,109,101,108,116],false,0,n,[⟨0,3⟩],[⟨1,1⟩],[]⟩ (.slice (some ⟨g+1+1,0,none⟩) 1 1) (.slice (some ⟨g+1+1+1,0,none⟩) 1 1) (.slice none 0 0)++qP9 ⟨[115,101,108,108],false,0,1,[⟨1,1⟩],[⟨2,6⟩],[]⟩ (.slice (some ⟨g+1+1+1+1+1,0,none⟩) 1 1) (.slice (some ⟨g+1+1+1+1+1+1,0,none⟩) 1 1) (.slice none 0 0));refine⟨?_,?_⟩
 ·refine qBc (xs:=(qAt n).items) (css:=[qBF [111,114,101],qBF [98,97,114],qBF [99,111,105,110]]) (h1.alloc _) (by simp[qBF]) rfl ?_ (by simp[qAt]) (by simp)
  intro j h1 h2;have:j=0\/j=1\/j=2:=by simp[qAt]at h1;omega
  rcases this with rfl|rfl|rfl<;>rfl
 ·refine qBc (xs:=(qAt n).rules) (css:=[qP9 ⟨[115,109,101,108,116],false,0,n,[⟨0,3⟩],[⟨1,1⟩],[]⟩ (.slice (some ⟨g+1+1,0,none⟩) 1 1) (.slice (some ⟨g+1+1+1,0,none⟩) 1 1) (.slice none 0 0),qP9 ⟨[115,101,108,108],false,0,1,[⟨1,1⟩],[⟨2,6⟩],[]⟩ (.slice (some ⟨g+1+1+1+1+1,0,none⟩) 1 1) (.slice (some ⟨g+1+1+1+1+1+1,0,none⟩) 1 1) (.slice none 0 0)]) h8 (by simp[qP9]) rfl ?_ (by simp[qAt]) (by simp)
  intro j hj1 hj2;have:j=0\/j=1:=by simp[qAt]at hj1;omega
  rcases this with rfl|rfl
  ·exact⟨_,_,_,rfl,qCs (h2.alloc _),qCs (h3.alloc _),qJj _⟩
  ·exact⟨_,_,_,rfl,qCs (h5.alloc _),qCs (h6.alloc _),qJj _⟩
theorem qHQ(n:Tx)(h:n∈[[111,114,101],[98,97,114],[99,111,105,110],[115,109,101,108,116],[115,101,108,108]]):qGr n:=by
 simp only[List.mem_cons,List.not_mem_nil,or_false]at h;rcases h with rfl|rfl|rfl|rfl|rfl<;>exact⟨by decide,by rfl⟩
theorem qE7{n M K it k:Nat}(h1:it<n)(h2:1<=k)(h3:k<=M)(h4:1<=K):qAM n M K [⟨it,k⟩]:=⟨by simp[qEW],by simp;omega,by simpa⟩
theorem qIQ{n M K:Nat}:qAM n M K []:=⟨by simp[qEW],by simp,by simp⟩
theorem qEk(n:Nat)(h1:1<=n)(h2:n<=2):qL8 (qAt n):=by
 refine⟨⟨by simp[qAt],by simp[qAt],by simp[qAt],?_⟩,⟨?_,?_⟩,by simp[qAt],by simp[qAt]⟩
 ·intro r hr
  simp only[qAt,List.mem_cons,List.not_mem_nil,or_false]at hr;rcases hr with rfl|rfl
  ·exact⟨qE7 (by simp[qAt]) (by omega) (by omega) (by omega),qE7 (by simp[qAt]) (by omega) (by omega) (by omega),qIQ,by simp<;>omega,by simp<;>omega,by simp<;>omega,by simp<;>omega,by simp<;>omega,by simp<;>omega,by simp<;>omega⟩
  ·exact⟨qE7 (by simp[qAt]) (by omega) (by omega) (by omega),qE7 (by simp[qAt]) (by omega) (by omega) (by omega),qIQ,by simp<;>omega,by simp<;>omega,by simp<;>omega,by simp<;>omega,by simp<;>omega,by simp<;>omega,by simp<;>omega⟩
 ·intro n hn
  simp only[qAt,List.mem_cons,List.not_mem_nil,or_false]at hn;exact qHQ n (by simp only[List.mem_cons];rcases hn with h|h|h<;>simp[h])
 ·intro r hr
  simp only[qAt,List.mem_cons,List.not_mem_nil,or_false]at hr;rcases hr with rfl|rfl
  ·exact qHQ _ (by simp)
  ·exact qHQ _ (by simp)
theorem qBV(n:Nat)(hn:n<=100)(w:World):Calls Tryz.prog 44 #[.int .i64 (n:Int)] w fun e w'=>(∃vi vr,e=.returned (qBo vi vr)/\qAS w' vi vr (qAt n))/\Below w.heap.size w w':=by
 go_enter Tryz.func44,Tryz.ntmps44
 go_wp2_with fail
 refine bodyPost_ret (v:=qBo (.slice (some ⟨w.heap.size+1,0,none⟩) 3 3) (.slice (some ⟨w.heap.size+1+1+1+1+1+1+1+1,0,none⟩) 2 2)) (by simp[results,Tryz.results44,go_sem,qBo]) rfl ⟨⟨_,_,rfl,qQI n w _ _ _ _ _ _ _ _ _ _ rfl⟩,?_⟩
 repeat refine Below.alloc ?_ (by simp<;>omega) _
 exact Below.refl _ _
def SmC(c:Cat):Prop:=∀r∈c.rules,qAM c.items.length 24 2 r.take/\qAM c.items.length 24 2 r.give/\qAM c.items.length 24 2 r.back
theorem qDY{n:Nat}{lt lg:List Amt}(h1:qAM n 24 2 lt)(h2:qAM n 24 2 lg)(i:Nat):(qBE lt lg i).natAbs<=60:=by
 have a:=qBS h1 i;have b:=qBS h2 i;unfold qBE;omega
theorem qRp{c:Cat}(hg:SmC c){x:Nat×(Nat->Int)}(h:x∈qC4 c):∀i,(x.2 i).natAbs<=60:=by
 obtain⟨r,hr,l,hl,he,hs,h5,h6,h7⟩:=qHt c.rules 0 x h;obtain⟨ht,hgi,hb⟩:=hg r hr;intro i;rw[he];unfold qCM at hl
 split at hl
 ·simp only[List.mem_cons,List.not_mem_nil,or_false]at hl
  rcases hl with rfl|rfl
  ·exact qDY ht hgi i
  ·exact qDY ht hb i
 ·simp only[List.mem_cons,List.not_mem_nil,or_false]at hl
  subst hl;exact qDY ht hgi i
theorem qPH{c:Cat}(hg:SmC c):∀f∈qCH c,∀i,(f i).natAbs<=60:=by
 intro f hf;obtain⟨x,hx,rfl⟩:=List.mem_map.1 hf;exact qRp hg hx
theorem qNx{pk:Nat->Nat->Nat}{bal:Bool}(hp:qJm pk):SmC (qBA pk bal):=by
 have hn:=qEL hp;have hl:=qDe (bal:=bal) hp;intro r hr;rw[hl];unfold qBA at hr;obtain⟨i,_,rfl⟩:=List.mem_map.1 hr;have hk:=qRF hp i;have ht:=(qDz (bal:=bal) hp (qLQ pk) i (by omega) (gK pk i)).mono (M':=24) (K':=2) (by omega) (by omega);have hg:=(qDA (bal:=bal) hp (qLQ pk) i (by omega) (gK pk i)).mono (M':=24) (K':=2) (by omega) (by omega);have h0:qAM (qLQ pk) 24 2 []:=qIQ;unfold qCh;simp only[]
 split
 ·exact⟨h0,hg,h0⟩
 ·refine⟨ht,hg,?_⟩
  simp only[]
  split
  ·exact ht
  ·exact h0
theorem qG1{pk:Nat->Nat->Nat}{bal:Bool}(hp:qJm pk):(qBA pk bal).items.length<=5:=by
 rw[qDe hp];exact(qEL hp).2
theorem qPG(n:Nat):SmC (qAt n):=by
 intro r hr;simp only[qAt,List.mem_cons,List.not_mem_nil,or_false]at hr;rcases hr with rfl|rfl
 ·exact⟨qE7 (by simp[qAt]) (by omega) (by omega) (by omega),qE7 (by simp[qAt]) (by omega) (by omega) (by omega),qIQ⟩
 ·exact⟨qE7 (by simp[qAt]) (by omega) (by omega) (by omega),qE7 (by simp[qAt]) (by omega) (by omega) (by omega),qIQ⟩
theorem qQu:IsN [[2,6,1]] 3:=by
 intro i hi h
 match i,hi with
 |0,_=>exact⟨rfl,by(simp only[List.getElem_cons_zero,List.getElem_cons_succ];decide),by(simp only[List.getElem_cons_zero,List.getElem_cons_succ];decide),fun k hk=>by omega,fun k hk=>by omega⟩
theorem qPc:qC0 3 (qCH (qAt 1))=[[-3,0],[1, -1],[0,6]]:=by decide
theorem qPb:qC0 3 (qCH (qAt 2))=[[-3, -3,0],[1,0, -1],[0,0,6]]:=by decide
theorem qPe:qEt 3 (qCH (qAt 1)) [[2,6,1]]:=by
 refine⟨?_,by simp,by simp,by unfold topE;simp⟩;rw[qPc];refine⟨qQu.nrm,fun v=>⟨?_,?_⟩⟩
 ·rintro⟨q,hq⟩
  have e:∃x:Int,∀j,v j=x*vec [2,6,1] j:=by
   match q with
   |[]=>exact⟨0,fun j=>by rw[hq];simp[comb]⟩
   |x::q=>exact⟨x,fun j=>by rw[hq];cases q<;>simp[comb]⟩
  obtain⟨x,hv⟩:=e;refine⟨fun j hj=> ?_,fun j=> ?_⟩
  ·rw[hv,qAs (by simpa using hj)];simp
  ·match j with
   |0=>
    show v 0* -3+(v 1*1+(v 2*0+0))=0
    rw[hv 0,hv 1,hv 2]
    show(x*2)* -3+((x*6)*1+((x*1)*0+0))=0
    omega
   |1=>
    show v 0*0+(v 1* -1+(v 2*6+0))=0
    rw[hv 0,hv 1,hv 2]
    show(x*2)*0+((x*6)* -1+((x*1)*6+0))=0
    omega
   |j+2=>simp[qBg,vec]
 ·rintro⟨h1,h2⟩
  have h0:v 0* -3+(v 1*1+(v 2*0+0))=0:=h2 0;have h3:v 0*0+(v 1* -1+(v 2*6+0))=0:=h2 1;refine⟨[v 2],fun j=> ?_⟩
  match j with
  |0=>
   show v 0=v 2*2+0
   omega
  |1=>
   show v 1=v 2*6+0
   omega
  |2=>
   show v 2=v 2*1+0
   omega
  |j+3=>
   rw[h1 (j+3) (by simp)];simp[comb,vec]
theorem qPd:qEt 3 (qCH (qAt 2)) []:=by
 refine⟨?_,by simp,by simp,by simp⟩;rw[qPb];refine⟨trivial,fun v=>⟨?_,?_⟩⟩
 ·rintro⟨q,hq⟩
  have hv:∀j,v j=0:=fun j=>by rw[hq];cases q<;>simp[comb]
  refine⟨fun j hj=>hv j,fun j=> ?_⟩;simp[qBg,hv]
 ·rintro⟨h1,h2⟩
  have h0:v 0* -3+(v 1*1+(v 2*0+0))=0:=h2 0;have h3:v 0* -3+(v 1*0+(v 2*0+0))=0:=h2 1;have h4:v 0*0+(v 1* -1+(v 2*6+0))=0:=h2 2;refine⟨[],fun j=> ?_⟩
  match j with
  |0=>
   show v 0=0
   omega
  |1=>
   show v 1=0
   omega
  |2=>
   show v 2=0
   omega
  |j+3=>rw[h1 (j+3) (by simp)];simp[comb]
theorem qNL{c:Cat}(hg:qHf c)(hs:SmC c):qBv (qC0 c.items.length (qCH c))=0:=by
 have h6:=hg.items;have h1:=hg.some_;have h44:=qJ4 hg;have hx:=qK8 (n:=c.items.length) (X:=60) (fun f hf i _=>qPH hs f hf i);refine qGn.2 ⟨by rw[qAQ];omega,fun r hr=>by rw[qEo r hr];omega,fun r hr=> ?_,fun r hr x hx2=>by have:=hx r hr x hx2;omega⟩;rw[qEo r hr,List.getElem?_eq_getElem (by rw[qAQ];exact h1)];exact(qEo _ (List.getElem_mem _)).symm
theorem qQt{c:Cat}(hg:qHf c)(h5:c.items.length<=5)(hs:SmC c){K:List (List Int)}(h:qBL (qC0 c.items.length (qCH c)) (K.map vec))(hr:∀r∈K,r.length=c.items.length)(hl:K.length<=c.items.length):qEt c.items.length (qCH c) K:=
 ⟨h,hr,hl,qQs (by rw[qAQ];exact h5) qI5 (qK8 (fun f hf i _=>qPH hs f hf i)) h⟩
theorem qEJ(vi vr:Value)(c:Cat)(w:World)(hc:qAS w vi vr c)(hf:qL8 c)(h5:c.items.length<=5)(hs:SmC c)(hK:qAZ w):
 Calls Tryz.prog 12 #[qBo vi vr] w fun e w'=>(∃u K,e=.returned (.tuple #[u,.int .i64 0])/\qA8 w' u K/\qEt c.items.length (qCH c) K)/\Below w.heap.size w w':=by
 obtain⟨ai,ci,rfl,hi1,hi2⟩:=hc.items.form;obtain⟨ar,cr,rfl,hr1,hr2⟩:=hc.rules.form;have HC:=hZ hc;have HF:=hZ hf;have HS:=hZ hs;have HK:=hZ hK;clear hc hf hs hK;unfold qBo;obtain⟨w1,hw1⟩:=eX (w.alloc (.cells #[.slice ai c.items.length ci,.slice ar c.rules.length cr,.slice none 0 0,.slice none 0 0] 28));have HB:Hid (Below w.heap.size w w1):=hZ (by rw[<-hw1];exact aR);have HX:Hid (qBw w1 w.heap.size (.slice ai c.items.length ci) (.slice ar c.rules.length cr)):=hZ (by rw[<-hw1];exact qBw.new w _ _);have m0:=HX.o.c0;have m1:=HX.o.c1;have m2:=HX.o.c2;have m3:=HX.o.c3;have mlt:=HX.o.lt
 go_enter Tryz.func12,Tryz.ntmps12
 go_wp2_with fail
 clear hw1;refine(qE5 _ _ c w1 (HC.o.below HB.o) HF.o (HK.o.keep HB.o)).mono ?_;rintro e w2 ⟨⟨u,rfl,hm⟩,hB⟩;replace HB:=bT HB hB;have HM:=hZ hm;obtain⟨au,cu,rfl, -,-⟩:=HM.o.form;clear hB hm m0 m1 m2 m3 mlt
 go_wp2_with fail
 refine(qLL w2 _ _ HM.o).mono ?_;rintro e w3 ⟨hB,h9|⟨-,H,h1,h2,h3,h4⟩⟩
 ·exact absurd (qNL HF.o.good HS.o) h9.1
 ·have hbas:=qQt HF.o.good h5 HS.o h1 (fun r hr=>by rw[h2 r hr,qAQ]) (by rw[<-qAQ (n:=c.items.length) (E:=qCH c)];exact h3)
  replace HB:=bT HB hB;have HBA:=hZ hbas;rcases h4 with ⟨_,r,hr,x,hx,h9⟩|⟨u,rfl,hm3,_⟩
  ·exact absurd (show qH4 x by have:=hbas.top r hr x hx;unfold topE at this;unfold qH4;omega) h9
  ·have HM3:=hZ hm3
   obtain⟨a3,c3,rfl, -,-⟩:=HM3.o.form;clear hB h1 h2 h3 hm3 hbas
   go_wp2_with fail
   exact bodyPost_ret (v:=.tuple #[.slice a3 H.length c3,.int .i64 0]) (by simp[results,Tryz.results12,go_sem]) rfl ⟨⟨_,H,rfl,HM3.o,HBA.o⟩,HB.o⟩
end Go.Proofs.YtkjhlkngihponaaGreatDoor
