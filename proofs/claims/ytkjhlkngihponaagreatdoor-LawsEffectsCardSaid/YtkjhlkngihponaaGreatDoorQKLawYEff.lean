/- the law LawsEffects: its walk. -/
import Derived.Test.YtkjhlkngihponaaGreatDoorQKYRes
import Derived.Test.YtkjhlkngihponaaGreatDoorQKGVal
import Derived.Test.YtkjhlkngihponaaGreatDoorQKGGen
import Derived.Test.YtkjhlkngihponaaGreatDoorQKYLBas
import Derived.Test.YtkjhlkngihponaaGreatDoorQKLTimes
import Derived.Test.YtkjhlkngihponaaGreatDoorQKLRow
import Derived.Test.YtkjhlkngihponaaGreatDoorQKYLive
set_option linter.unusedVariables false
set_option linter.unusedSimpArgs false
set_option maxHeartbeats 8000000
set_option maxRecDepth 100000
namespace Go.Proofs.YtkjhlkngihponaaGreatDoor
open Go.RowKit
attribute [local go_sem] Oper.semAt_some
theorem qCE.take{w:World}{a:Option Addr}{n cap:Nat}{l:List Tx}(h:qCE w (.slice a n cap) l)(m:Nat)(hm:m<=l.length):qCE w (.slice a m cap) (l.take m):=qAb.take h m hm
structure qQ8(ls:List (List Tx)):Prop where
 len:ls.length=4
 word:∀l∈ls,∀n∈l,qGr n
 once:∀l∈ls,l.Nodup
theorem qQk{c:Cat}(hf:qL8 c):qQ8 [c.items,c.rules.map (fun r=>r.name),[],[]]:=by
 refine⟨rfl,fun l hl n hn=> ?_,fun l hl=> ?_⟩
 ·simp only[List.mem_cons,List.not_mem_nil,or_false]at hl
  rcases hl with rfl|rfl|rfl|rfl
  ·exact hf.named.1 n hn
  ·obtain⟨r,hr,rfl⟩:=List.mem_map.1 hn
   exact hf.named.2 r hr
  ·simp at hn
  ·simp at hn
 ·simp only[List.mem_cons,List.not_mem_nil,or_false]at hl
  rcases hl with rfl|rfl|rfl|rfl
  ·exact hf.ni
  ·exact hf.nr
  ·exact List.nodup_nil
  ·exact List.nodup_nil
theorem qLB{l:List Tx}(h:l.Nodup)(k:Nat)(hk:k<l.length):decide (l[k]∈l.take k)=false:=by
 refine decide_eq_false (fun hm=> ?_);obtain⟨q,hq,he⟩:=List.mem_take_iff_getElem.1 hm;have:=List.pairwise_iff_getElem.1 h q k (by omega) hk (by omega);exact this he
theorem qLJ{c:Cat}(hg:qHf c):∀l∈qAP c.rules,qAM c.items.length 1000 2 l:=by
 intro l hl;obtain⟨r,hr,hm⟩:=List.mem_flatMap.1 hl;have h:=hg.each r hr;simp only[List.mem_cons,List.not_mem_nil,or_false]at hm;rcases hm with rfl|rfl|rfl
 ·exact h.take
 ·exact h.give
 ·exact h.back
theorem qLU(k:Nat)(h:k<5):([.bool false,.bool false,.bool false,.bool false,.bool false]:List Value)[k]? =some (.bool false):=by
 match k,h with
 |0,_=>rfl
 |1,_=>rfl
 |2,_=>rfl
 |3,_=>rfl
 |4,_=>rfl
theorem qLx(vi vr:Value)(c:Cat)(w:World)(hc:qAS w vi vr c)(hf:qL8 c):
 Calls Tryz.prog 53 #[qBo vi vr] w fun e w'=>e=.returned (.int .i64 0)/\Below w.heap.size w w':=by
 obtain⟨ai,ci,rfl,hi1,hi2⟩:=hc.items.form;obtain⟨ar,cr,rfl,hr1,hr2⟩:=hc.rules.form;have HC:=hZ hc;have HF:=hZ hf;have hli:=hf.good.items;have hlr:=hf.good.rules;have HNO:=hZ (qQk hf);clear hc hf;unfold qBo;obtain⟨w1,hw1⟩:=eX (w.alloc (.cells #[.slice ai c.items.length ci,.slice ar c.rules.length cr,.slice none 0 0,.slice none 0 0] 28));have HB:Hid (Below w.heap.size w w1):=hZ (by rw[<-hw1];exact aR);have HX:Hid (qBw w1 w.heap.size (.slice ai c.items.length ci) (.slice ar c.rules.length cr)):=hZ (by rw[<-hw1];exact qBw.new _ _ _);have m0:=HX.o.c0;have m1:=HX.o.c1;have m2:=HX.o.c2;have m3:=HX.o.c3;have mlt:=HX.o.lt;have q1:decide (64<(c.items.length:Int))=false:=decide_eq_false (by omega);have q2:decide (64<(c.rules.length:Int))=false:=decide_eq_false (by omega)
 go_enter Tryz.func53,Tryz.ntmps53
 go_wp2_with fail
 clear hw1 q1 q2;refine(qM6 _ _ c w1 (HC.o.below HB.o) (by omega) (by omega)).mono ?_;rintro e w2 ⟨⟨vn,rfl,hn⟩,hB⟩;have HBK:=hZ hB;have hBk:=HBK.o;replace HB:=hZ (HB.o.trans (hBk.mono HB.o.size));replace HX:=hZ (HX.o.below hBk);clear hBk
 try clear m0
 try clear m1
 try clear m2
 try clear m3
 try clear mlt
 have m0:=HX.o.c0;have m1:=HX.o.c1;have m2:=HX.o.c2;have m3:=HX.o.c3;have mlt:=HX.o.lt;obtain⟨ls,hls⟩:∃ls,[c.items,c.rules.map (fun r=>r.name),[],[]]=ls:=⟨_,rfl⟩;rw[hls]at hn HNO;have hl4:=HNO.o.len;obtain⟨na,nc,rfl,hn1,hn2⟩:=hn.form;rw[hl4]at hn1 hn ⊢;have HN:=hZ hn;clear hls hn hB HBK
 go_wp2_with fail
 clear m0 m1 m2 m3 mlt
 go_loopw [4,5,9] (fun x y i wr=>∃j:Nat,j<=4/\x=.bool false/\y=.bool false/\i=.int .i64 j/\Hid (Below w2.heap.size w2 wr)) (fun _ _ i _=>4-(intOf i).toNat)
 case atStart=>exact⟨0,by omega,rfl,rfl,rfl,hZ (Below.refl _ _)⟩
 case round=>
  obtain⟨j,hj,rfl,rfl,rfl,HBl⟩:=hrel;by_cases hlt:j<4
  ·obtain⟨b,cap,u,hv,hb,x0,hu⟩:=qFb.at_ (HN.o.below HBl.o) j (by omega)
   injection hv with e1 e2 e3;subst e1;clear e2 e3;have HW:Hid (∀n∈ls[j]'(by omega),qGr n):=hZ (fun n hn=>HNO.o.word _ (List.getElem_mem _) n hn);have HO1:Hid ((ls[j]'(by omega)).Nodup):=hZ (HNO.o.once _ (List.getElem_mem _));generalize ls[j]'(by omega)=l at *;obtain⟨ua,uc,rfl,hu1,hu2⟩:=hu.form;have HT:=hZ hu;clear hu;have i1:(j:Int)<4:=by omega
   obtain⟨w3,rfl⟩:=eY wr;have HX0:=hZ x0
   go_wp2_with fail
   go_loopw [4,5,10] (fun x y i wr=>∃k:Nat,k<=l.length/\x=.bool false/\y=.bool false/\i=.int .i64 k/\Hid (Below w3.heap.size w3 wr)) (fun _ _ i _=>l.length-(intOf i).toNat)
   case atStart=>exact⟨0,by omega,rfl,rfl,rfl,hZ (Below.refl _ _)⟩
   case round=>
    clear x0;obtain⟨k,hk,rfl,rfl,rfl,HBk⟩:=hrel;have x0:=(HBk.o.cell (p:=⟨b,j,none⟩) hb).trans HX0.o;have hbr:b<wr.heap.size:=Nat.lt_of_lt_of_le hb HBk.o.size;by_cases hlt2:k<l.length
    ·have HTk:=hZ (HT.o.below HBk.o)
     obtain⟨b2,cap2,hv,hb2,x1⟩:=qCE.at_ HTk.o k hlt2;injection hv with e1 e2 e3;subst e1;clear e2 e3;have HWk:=hZ (HW.o l[k] (List.getElem_mem hlt2));have HDk:=hZ (qLB HO1.o k hlt2);generalize l[k]=n at *;have i2:(k:Int)<(l.length:Int):=by omega
     have i3:(k:Int)<=(uc:Int):=by omega
     go_wp2_with fail
     refine(qMA n wr HWk.o).mono ?_;rintro e w5 ⟨rfl,hB⟩;replace x0:=(hB.cell (p:=⟨b,j,none⟩) hbr).trans x0;replace x1:=(hB.cell (p:=⟨b2,k,none⟩) hb2).trans x1;replace HTk:=hZ (HTk.o.below hB);have HBk5:=hZ (HBk.o.trans (hB.mono HBk.o.size));clear hB HWk
     go_wp2_with fail
     refine qBQ 99 (fun W=>W.cell? ⟨b,j,none⟩=some (.slice (some ⟨b2,0,none⟩) l.length uc)/\W.cell? ⟨b2,k,none⟩=some (.string ⟨n.toArray⟩)) (by kernel_rfl) (⟨x0,x1⟩) (fun hHeld=> ?_);refine kU 0 82 ?_;refine kU 1 83 ?_;refine kU 2 84 ?_;refine kU 3 85 ?_;refine kU 4 86 ?_;refine kU 5 87 ?_;refine kU 6 88 ?_;refine kU 7 89 ?_;refine kU 8 90 ?_;refine kU 9 91 ?_;refine kU 10 92 ?_;refine kU 11 93 ?_;refine kU 12 94 ?_;refine kU 13 95 ?_;refine kU 14 96 ?_;refine qA2 15 (by kernel_rfl) rfl (fun K hK=> ?_);go_simp;refine(qQa _ (l.take k) n _ (qCE.take (qCE.below HTk.o (Below.refl _ _).drew) k (by omega))).mono ?_;rintro e w6 ⟨rfl,hw6⟩;rw[hw6,HDk.o];clear hHeld
     go_wp2_with fail
     refine hK.out _ _ (⟨x0,x1⟩) (fun hHeld=> ?_);clear hK K
     try simp only[Act.put,List.setIfInBounds_toArray,List.set_cons_zero,List.set_cons_succ]
     refine kU 16 98 ?_;refine kU 17 5 ?_;refine qGK (by kernel_rfl) ?_ _;clear hHeld;clear x0 x1
     go_wp2_with fail
     go_roundw
     case rel=>exact⟨k+1,by omega,rfl,rfl,by go_num,hZ HBk5.o.drew⟩
     case measure=>simp[intOf];omega
    ·have hq:decide ((k:Int)<(l.length:Int))=false:=decide_eq_false (by omega)
     go_wp2_with fail
     go_roundw
     case rel=>exact⟨j+1,by omega,rfl,rfl,by go_num,hZ (HBl.o.trans (HBk.o.mono HBl.o.size))⟩
     case measure=>simp[intOf];omega
  ·have hq:decide ((j:Int)<4)=false:=decide_eq_false (by omega)
   have hBk:=HBl.o;replace HB:=hZ (HB.o.trans (hBk.mono HB.o.size));replace HX:=hZ (HX.o.below hBk);clear hBk
   try clear m0
   try clear m1
   try clear m2
   try clear m3
   try clear mlt
   have m0:=HX.o.c0;have m1:=HX.o.c1;have m2:=HX.o.c2;have m3:=HX.o.c3;have mlt:=HX.o.lt;clear HN HNO HBl;obtain⟨w4,rfl⟩:=eY wr
   go_wp2_with fail
   clear m0 m1 m2 m3 mlt hq
   go_loopw [6,7,11] (fun x y i wr=>∃j:Nat,j<=c.items.length/\x=.bool false/\y=.bool false/\i=.int .i64 j/\Hid (Below w4.heap.size w4 wr)) (fun _ _ i _=>c.items.length-(intOf i).toNat)
   case atStart=>exact⟨0,by omega,rfl,rfl,rfl,hZ (Below.refl _ _)⟩
   case round=>
    obtain⟨j,hj,rfl,rfl,rfl,HBl⟩:=hrel;have hBk:=HBl.o;replace HB:=hZ (HB.o.trans (hBk.mono HB.o.size));replace HX:=hZ (HX.o.below hBk);clear hBk
    try clear m0
    try clear m1
    try clear m2
    try clear m3
    try clear mlt
    have m0:=HX.o.c0;have m1:=HX.o.c1;have m2:=HX.o.c2;have m3:=HX.o.c3;have mlt:=HX.o.lt;by_cases hlt:j<c.items.length
    ·obtain⟨b,cap,cs,hv,hb,hcs,_,hcc⟩:=qAb.at_ (HC.o.items.below HB.o) j hlt
     injection hv with e1 e2 e3;subst e1;clear e2 e3;have x0:=hcc 0 (by omega);have x1:=hcc 1 (by omega);have x2:=hcc 2 (by omega);have x3:=hcc 3 (by omega);have x4:=hcc 4 (by omega);have x5:=hcc 5 (by omega);have x6:=hcc 6 (by omega);subst hcs;simp only[qBF,zv,List.getElem?_cons_succ,List.getElem?_cons_zero,Nat.add_zero]at x0 x1 x2 x3 x4 x5 x6;have i1:(j:Int)<(c.items.length:Int):=by omega
     clear hcc;generalize c.items[j]=n at *
     go_wp2_with fail
     obtain⟨w5,hw5⟩:=eX (wr.alloc (.cells #[.string ⟨n.toArray⟩,.bool false,.bool false,.bool false,.int .i64 0,.int .i64 0,.int .i64 0] 61));have HB5:Hid (Below wr.heap.size wr w5):=hZ (by rw[<-hw5];exact aR);have HK5:Hid (qAf w5 wr.heap.size 61 [.string ⟨n.toArray⟩,.bool false,.bool false,.bool false,.int .i64 0,.int .i64 0,.int .i64 0]):=hZ (by rw[<-hw5];exact qAf.new _ _ _);rw[hw5];clear hw5 x0 x1 x2 x3 x4 x5 x6 m0 m1 m2 m3 mlt;refine(qHK n w5).mono ?_;rintro e w6 ⟨rfl,hB⟩;replace HB5:=bT HB5 hB;replace HK5:=hZ (HK5.o.below hB HK5.o.lt);have y1:=HK5.o.cell 1;have y6:=HK5.o.cell 6;simp only[List.getElem?_cons_succ,List.getElem?_cons_zero]at y1 y6;clear hB
     go_wp2_with fail
     go_roundw
     case rel=>exact⟨j+1,by omega,rfl,rfl,by go_num,hZ (HBl.o.trans (HB5.o.mono HBl.o.size))⟩
     case measure=>simp[intOf];omega
    ·have hq:decide ((j:Int)<(c.items.length:Int))=false:=decide_eq_false (by omega)
     clear HBl;obtain⟨w5,rfl⟩:=eY wr
     go_wp2_with fail
     clear m0 m1 m2 m3 mlt hq
     go_loopw [3,6,7,14] (fun z x y i wr=>∃j:Nat,j<=c.rules.length/\z=.bool false/\x=.bool false/\y=.bool false/\i=.int .i64 j/\Hid (Below w5.heap.size w5 wr)) (fun _ _ _ i _=>c.rules.length-(intOf i).toNat)
     case atStart=>exact⟨0,by omega,rfl,rfl,rfl,rfl,hZ (Below.refl _ _)⟩
     case round=>
      obtain⟨j,hj,rfl,rfl,rfl,rfl,HBl⟩:=hrel;have hBk:=HBl.o;replace HB:=hZ (HB.o.trans (hBk.mono HB.o.size));replace HX:=hZ (HX.o.below hBk);clear hBk
      try clear m0
      try clear m1
      try clear m2
      try clear m3
      try clear mlt
      have m0:=HX.o.c0;have m1:=HX.o.c1;have m2:=HX.o.c2;have m3:=HX.o.c3;have mlt:=HX.o.lt;by_cases hlt:j<c.rules.length
      ·obtain⟨b,cap,p,hv,hb,hr,hcs⟩:=qA1.at_ (HC.o.rules.below HB.o) j hlt
       injection hv with e1 e2 e3;subst e1;clear e2 e3;obtain⟨c0,c1,c2,c3,c4,c5,c6,c7,c8⟩:=hcs;have HRE:=hZ (qGD c.rules[j] p c.items.length wr hr (HF.o.good.each _ (List.getElem_mem hlt)) (by omega));unfold qGu at HRE;have i1:(j:Int)<(c.rules.length:Int):=by omega
       clear hr;generalize c.rules[j]=r at *
       go_wp2_with fail
       refine HRE.o.mono ?_;rintro e w6 ⟨rfl,hB⟩;have HB6:=hZ (HBl.o.trans (hB.mono HBl.o.size));clear hB c0 c1 c2 c3 c4 c5 c6 c7 c8 m0 m1 m2 m3 mlt
       go_wp2_with fail
       go_roundw
       case rel=>exact⟨j+1,by omega,rfl,rfl,rfl,by go_num,HB6⟩
       case measure=>simp[intOf];omega
      ·have hq:decide ((j:Int)<(c.rules.length:Int))=false:=decide_eq_false (by omega)
       clear HBl
       go_wp2_with fail
       go_loopw [3,6,7,18] (fun z x y i wr2=>z=.bool false/\x=.bool false/\y=.bool false/\i=.int .i64 0/\Hid (wr2=wr)) (fun _ _ _ _ _=>0)
       case atStart=>exact⟨rfl,rfl,rfl,rfl,hZ rfl⟩
       case round=>
        obtain⟨rfl,rfl,rfl,rfl,HWQ⟩:=hrel;obtain rfl:=HWQ.o;clear HWQ
        go_wp2_with fail
        go_loopw [3,6,7,22] (fun z x y i wr2=>z=.bool false/\x=.bool false/\y=.bool false/\i=.int .i64 0/\Hid (wr2=wr)) (fun _ _ _ _ _=>0)
        case atStart=>exact⟨rfl,rfl,rfl,rfl,hZ rfl⟩
        case round=>
         obtain⟨rfl,rfl,rfl,rfl,HWQ⟩:=hrel;obtain rfl:=HWQ.o;clear HWQ
         go_wp2_with fail
         refine(qNh _ _ c _ (HC.o.below HB.o) (by omega)).mono ?_;rintro e w6 ⟨⟨vl,rfl,hl⟩,hB⟩;have HBK:=hZ hB;have hBk:=HBK.o;replace HB:=hZ (HB.o.trans (hBk.mono HB.o.size));replace HX:=hZ (HX.o.below hBk);clear hBk
         try clear m0
         try clear m1
         try clear m2
         try clear m3
         try clear mlt
         have m0:=HX.o.c0;have m1:=HX.o.c1;have m2:=HX.o.c2;have m3:=HX.o.c3;have mlt:=HX.o.lt;have HLG:=hZ (qLJ HF.o.good);have hll:(qAP c.rules).length<=66:=by rw[qHp];omega
         obtain⟨ls,hls⟩:=eX (qAP c.rules);rw[hls]at hl HLG hll;obtain⟨la,lc,rfl,hl1,hl2⟩:=hl.form;have HL:=hZ hl;clear hls hl hB HBK m0 m1 m2 m3 mlt
         go_wp2_with fail
         go_loopw [6,7,27] (fun x y i wr=>∃j:Nat,j<=ls.length/\x=.bool false/\y=.bool false/\i=.int .i64 j/\Hid (Below w6.heap.size w6 wr)) (fun _ _ i _=>ls.length-(intOf i).toNat)
         case atStart=>exact⟨0,by omega,rfl,rfl,rfl,hZ (Below.refl _ _)⟩
         case round=>
          obtain⟨j,hj,rfl,rfl,rfl,HBl⟩:=hrel;by_cases hlt:j<ls.length
          ·obtain⟨b,cap,u,hv,hb,x0,hu⟩:=qCT.at_ (HL.o.below HBl.o) j hlt
           injection hv with e1 e2 e3;subst e1;clear e2 e3;have HGL:=hZ (HLG.o ls[j] (List.getElem_mem hlt));generalize ls[j]=l at *;obtain⟨ua,uc,rfl,hu1,hu2⟩:=hu.form;have HT:=hZ hu;have i1:(j:Int)<(ls.length:Int):=by omega
           have HX0:=hZ x0;have HBw:=hZ (HB.o.trans (HBl.o.mono HB.o.size));have HXw:=hZ (HX.o.below HBl.o);obtain⟨w7,rfl⟩:=eY wr;have hgl:=HGL.o.len;clear hu
           go_wp2_with fail
           clear x0
           go_loopw [6,7,28] (fun x y i wr=>∃k:Nat,k<=l.length/\x=.bool false/\y=.bool false/\i=.int .i64 k/\Hid (Below w7.heap.size w7 wr)) (fun _ _ i _=>l.length-(intOf i).toNat)
           case atStart=>exact⟨0,by omega,rfl,rfl,rfl,hZ (Below.refl _ _)⟩
           case round=>
            obtain⟨k,hk,rfl,rfl,rfl,HBk⟩:=hrel;have x0:=(HBk.o.cell (p:=⟨b,j,none⟩) hb).trans HX0.o;have hbr:b<wr.heap.size:=Nat.lt_of_lt_of_le hb HBk.o.size;by_cases hlt2:k<l.length
            ·have HXk:=hZ (HXw.o.below HBk.o)
             have HTk:=hZ (HT.o.below HBk.o);obtain⟨b2,cap2,hv,hb2,y0,y1⟩:=qAl.at_ HTk.o k hlt2;injection hv with e1 e2 e3;subst e1;clear e2 e3;have hit:=HGL.o.all l[k] (List.getElem_mem hlt2);have HSO:Hid (∀q (hq:q<l.length),q<k->l[q].item<l[k].item):=hZ (fun q hq hqk=>List.pairwise_iff_getElem.1 HGL.o.sorted q k hq hlt2 hqk);generalize l[k]=x at *;obtain⟨xi,xn⟩:=x;simp only[]at hit y0 y1 HSO;have i2:(k:Int)<(l.length:Int):=by omega
             have qa:decide ((xi:Int)<0)=false:=decide_eq_false (by omega);have qb:decide ((c.items.length:Int)<=(xi:Int))=false:=decide_eq_false (by omega);have qb':decide (c.items.length<=xi)=false:=decide_eq_false (by omega);have qc:decide ((xn:Int)<1)=false:=decide_eq_false (by omega);have qd:decide (1099511627776<(xn:Int))=false:=decide_eq_false (by omega)
             go_wp2_with fail
             obtain⟨w8,hw8⟩:=eX (wr.alloc (.cells #[.int .i64 (xi:Int),.int .i64 (xn:Int)] 108));have HB8:Hid (Below wr.heap.size wr w8):=hZ (by rw[<-hw8];exact aR);have HK8:Hid (qAf w8 wr.heap.size 108 [.int .i64 (xi:Int),.int .i64 (xn:Int)]):=hZ (by rw[<-hw8];exact qAf.new _ _ _);rw[hw8];have z0:=HK8.o.cell 0;have z1:=HK8.o.cell 1;simp only[List.getElem?_cons_succ,List.getElem?_cons_zero]at z0 z1;replace x0:=(HB8.o.cell (p:=⟨b,j,none⟩) hbr).trans x0;have HXm:=HXk.o.below HB8.o;have n0:=HXm.c0;have HB9:=hZ (HBk.o.trans (HB8.o.mono HBk.o.size));clear hw8 y0 y1 HXm;by_cases hk0:k=0
             ·subst hk0
              refine qBQ 99 (fun W=>W.cell? ⟨b,j,none⟩=some (.slice (some ⟨b2,0,none⟩) l.length uc)/\W.cell? ⟨wr.heap.size,0,none⟩=some (.int .i64 (xi:Int))/\W.cell? ⟨w.heap.size,0,none⟩=some (.slice ai c.items.length ci)) (by kernel_rfl) (⟨x0,z0,n0⟩) (fun hHeld=> ?_);refine kU 0 254 ?_;refine kU 1 255 ?_;refine kU 2 256 ?_;refine kU 3 257 ?_;refine kU 4 258 ?_;refine kU 5 259 ?_;refine kU 6 260 ?_;refine kU 7 261 ?_;refine kU 8 262 ?_;refine kU 9 263 ?_;refine kU 10 264 ?_;refine kU 11 265 ?_;refine kU 12 266 ?_;refine kU 13 267 ?_;refine kU 14 268 ?_;refine kU 15 269 ?_;refine kU 16 270 ?_;refine kU 17 271 ?_;refine jU 18 272 ?_;refine jU 19 273 ?_;refine jU 20 274 ?_;refine jU 21 275 ?_;refine jU 22 276 ?_;refine jU 23 277 ?_;refine jU 24 278 ?_;refine jU 25 279 ?_;refine jU 26 280 ?_;refine jU 27 281 ?_;refine jU 28 282 ?_;refine jU 29 283 ?_;refine kU 30 284 ?_;refine kU 31 285 ?_;refine kU 32 6 ?_;refine qGK (by kernel_rfl) ?_ _;clear hHeld;clear x0 z0 n0
              go_wp2_with fail
              go_roundw
              case rel=>exact⟨1,by omega,rfl,rfl,by first|rfl|go_num,hZ HB9.o.drew⟩
              case measure=>simp[intOf];omega
             ·obtain⟨m,rfl⟩:∃m,k=m+1:=⟨k-1,by omega⟩
              obtain⟨b3,cap3,hv,hb3,v0,v1⟩:=qAl.at_ HTk.o m (by omega);injection hv with e1 e2 e3;injection e1 with e1;injection e1 with e1;subst e1;clear e2 e3 v1;have hso:=HSO.o m (by omega) (by omega);generalize l[m]=y at *;obtain⟨yi,yn⟩:=y;simp only[]at v0 hso;replace v0:=(HB8.o.cell (p:=⟨b2,m*2,none⟩) hb2).trans v0;have qe:decide ((0:Int)<((m+1:Nat):Int))=true:=decide_eq_true (by omega);have qe':decide ((0:Int)<(m:Int)+1)=true:=decide_eq_true (by omega);have qf:decide ((xi:Int)<=(yi:Int))=false:=decide_eq_false (by omega);have qf':decide (xi<=yi)=false:=decide_eq_false (by omega);have qg:IntKind.i64.wrap (((m+1:Nat):Int)-1)=(m:Int):=by rw[IntWalk.i64_in _ (by omega)];omega
              have qh:IntKind.i64.wrap ((m:Int)+1-1)=(m:Int):=by rw[IntWalk.i64_in _ (by omega)];omega
              have qi:IntKind.i64.wrap (m:Int)=(m:Int):=IntWalk.i64_in _ (by omega);have i3:(m:Int)<(l.length:Int):=by omega
              refine qBQ 99 (fun W=>W.cell? ⟨b,j,none⟩=some (.slice (some ⟨b2,0,none⟩) l.length uc)/\W.cell? ⟨wr.heap.size,0,none⟩=some (.int .i64 (xi:Int))/\W.cell? ⟨w.heap.size,0,none⟩=some (.slice ai c.items.length ci)/\W.cell? ⟨b2,m*2,none⟩=some (.int .i64 (yi:Int))) (by kernel_rfl) (⟨x0,z0,n0,v0⟩) (fun hHeld=> ?_);refine kU 0 254 ?_;refine kU 1 255 ?_;refine kU 2 256 ?_;refine kU 3 257 ?_;refine kU 4 258 ?_;refine kU 5 259 ?_;refine kU 6 260 ?_;refine kU 7 261 ?_;refine kU 8 262 ?_;refine kU 9 263 ?_;refine kU 10 264 ?_;refine kU 11 265 ?_;refine kU 12 266 ?_;refine kU 13 267 ?_;refine kU 14 268 ?_;refine kU 15 269 ?_;refine kU 16 270 ?_;refine kU 17 271 ?_;refine kU 18 272 ?_;refine kU 19 273 ?_;refine kU 20 274 ?_;refine kU 21 275 ?_;refine kU 22 276 ?_;refine kU 23 277 ?_;refine kU 24 278 ?_;refine kU 25 279 ?_;refine kU 26 280 ?_;refine kU 27 281 ?_;refine kU 28 282 ?_;refine kU 29 283 ?_;refine kU 30 284 ?_;refine kU 31 285 ?_;refine kU 32 6 ?_;refine qGK (by kernel_rfl) ?_ _;clear hHeld;clear x0 z0 n0 v0
              go_wp2_with fail
              go_roundw
              case rel=>exact⟨m+2,by omega,rfl,rfl,by go_num,hZ HB9.o.drew⟩
              case measure=>simp[intOf];omega
            ·have hq:decide ((k:Int)<(l.length:Int))=false:=decide_eq_false (by omega)
             go_wp2_with fail
             go_roundw
             case rel=>exact⟨j+1,by omega,rfl,rfl,by go_num,hZ (HBl.o.trans (HBk.o.mono HBl.o.size))⟩
             case measure=>simp[intOf];omega
          ·have hq:decide ((j:Int)<(ls.length:Int))=false:=decide_eq_false (by omega)
           have HBw:=hZ (HB.o.trans (HBl.o.mono HB.o.size));clear HBl
           go_wp2_with fail
           obtain⟨w8,hw8⟩:=eX ((wr.alloc (.cells #[.bool false,.bool false,.bool false,.bool false,.bool false] 4)).alloc (.cells #[.int .i64 4,.int .i64 6,.int .i64 8,.int .i64 1,.int .i64 5] 31));have HK8:Hid (qAf w8 wr.heap.size 4 [.bool false,.bool false,.bool false,.bool false,.bool false]):=hZ (by rw[<-hw8];exact(qAf.new _ _ _).alloc _);have HB8:Hid (Below w.heap.size w w8):=hZ (by rw[<-hw8];exact(HBw.o.alloc HBw.o.size _).alloc (by simp;have:=HBw.o.size;omega) _);rw[hw8];clear hw8 hq HBw
           go_loopw [32] (fun i wr2=>∃k:Nat,k<=5/\i=.int .i64 k/\Hid (wr2=w8)) (fun i _=>5-(intOf i).toNat)
           case atStart=>exact⟨0,by omega,rfl,hZ rfl⟩
           case round=>
            obtain⟨k,hk,rfl,HWQ⟩:=hrel;obtain rfl:=HWQ.o;clear HWQ;by_cases hlt:k<5
            ·have x0:=HK8.o.cell k
             rw[qLU k hlt]at x0;have i1:(k:Int)<5:=by omega
             go_wp2_with fail
             go_roundw
             case rel=>exact⟨k+1,by omega,by go_num,hZ (by first|trivial|rfl)⟩
             case measure=>simp[intOf];omega
            ·have hq:decide ((k:Int)<5)=false:=decide_eq_false (by omega)
             go_wp2_with fail
             go_ret;exact⟨rfl,HB8.o⟩
theorem YMt.nil(w:World)(B n:Nat):YMt w B (.slice none 0 0) [] n []:=⟨World.ownsRow_nil _ _ _ _,rfl,fun i h=>by simp at h,fun i j h=>by simp at h⟩
theorem qOA{w:World}{base base':Nat}{e:TypeId}{size:Nat}{v:Value}{n:Nat}{xs:List Value}(h:w.ownsRow base e size v n xs)(hb:base'<=base):w.ownsRow base' e size v n xs:=by
 refine⟨h.1,?_⟩;rcases h.2 with h1|⟨g,cap,cur,hv,hb',rest⟩
 ·exact .inl h1
 ·exact .inr ⟨g,cap,cur,hv,Nat.le_trans hb hb',rest⟩
theorem YMt.snoc{w w':World}{B n g:Nat}{v:Value}{c:Nat}{l:List Yw}{M:List (List Int)}{x:Yw}{r:List Int}(h:YMt w B v l n M)(hr:w.ownsRow B 3 1 (yV n x) n (r.map zv))(hl:r.length=n)
 (hx:∀i (hi:i<l.length) b,(yV n l[i]).ownBlock=some b->(yV n x).ownBlock≠some b)(ho:qAc (fun b=>v.ownBlock=some b) w w')(hown:w'.ownsRow B 22 1 (.slice (some ⟨g,0,none⟩) (l.length+1) c) (l.length+1) (l.map (yV n)++[yV n x])):YMt w' B (.slice (some ⟨g,0,none⟩) (l.length+1) c) (l++[x]) n (M++[r]):=by
 have hlen:=h.len;have hrow:∀(y:Yw) (rr:List Int),w.ownsRow B 3 1 (yV n y) n (rr.map zv)->w'.ownsRow B 3 1 (yV n y) n (rr.map zv):=fun y rr hy=>ho.own hy (fun b hb e=>absurd (qKH hy h.own hb e) (by decide));refine⟨by rw[List.length_append,List.map_append];exact hown,by simp[hlen],fun i hi hi'=> ?_,fun i j hi hj b hij hb=> ?_⟩
 ·simp only[List.length_append,List.length_singleton]at hi
  by_cases e:i<l.length
  ·rw[List.getElem_append_left e,List.getElem_append_left (by omega)]
   obtain⟨h1,h2⟩:=h.row i e (by omega);exact⟨hrow _ _ h1,h2⟩
  ·obtain rfl:i=l.length:=by omega
   rw[List.getElem_append_right (by omega),List.getElem_append_right (by omega)];simp only[hlen,Nat.sub_self,List.getElem_singleton];exact⟨hrow _ _ hr,hl⟩
 ·simp only[List.length_append,List.length_singleton]at hi hj
  by_cases e:i<l.length<;>by_cases e2:j<l.length
  ·rw[List.getElem_append_left e]at hb
   rw[List.getElem_append_left e2];exact h.nodup i j e e2 b hij hb
  ·rw[List.getElem_append_left e]at hb
   rw[List.getElem_append_right (by omega)];simpa using hx i e b hb
  ·rw[List.getElem_append_right (by omega)]at hb
   rw[List.getElem_append_left e2];simp only[List.getElem_singleton]at hb;exact fun h9=>hx j e2 b h9 hb
  ·omega
theorem qR5{L:List Int}{j:Nat}(h:j<L.length){z:Int}(hz:z=L[j]):L.take (j+1)=L.take j++[z]:=by rw[hz,List.take_succ_eq_append_getElem h]
theorem qKm.at_{w:World}{n:Nat}{v:Value}{L:List (Nat×(Nat->Int))}(h:qKm w n v L)(k:Nat)(hk:k<L.length):∃b cap g,v=.slice (some ⟨b,0,none⟩) L.length cap/\b<w.heap.size/\w.cell? ⟨b,k*2+1,none⟩=some (.slice (some ⟨g,0,none⟩) n n)/\qAf w g 3 (qBa n L[k].2):=by
 obtain⟨b,cap,cs,hv,hb,⟨g,rfl,hg⟩,_,hc⟩:=qAb.at_ h k hk;exact⟨b,cap,g,hv,hb,hc 1 (by omega),hg⟩
theorem qKm.below{w w':World}{n:Nat}{v:Value}{L:List (Nat×(Nat->Int))}(h:qKm w n v L)(hb:Below w.heap.size w w'):qKm w' n v L:=
 qAb.below h hb (fun _ _ ⟨g,e,hg⟩=>⟨g,e,hg.below hb hg.lt⟩)
theorem qIt(vi vr:Value)(c:Cat)(w:World)(hc:qAS w vi vr c)(hf:qL8 c)(hv9:∀w',Below w.heap.size w w'->Calls Tryz.prog 53 #[qBo vi vr] w' fun e w''=>e=.returned (.int .i64 0)/\Below w'.heap.size w' w'')(hL:(qC4 c).length<=1000):
 Calls Tryz.prog 18 #[qBo vi vr] w fun e w'=>(∃u,e=.returned (.tuple #[u,.int .i64 0])/\qA8 w' u (qC0 c.items.length (qCH c)))/\Below w.heap.size w w':=by
 have HF:=hZ hf;have HV9:=hZ hv9;have hn6:=hf.good.items;clear hf hv9;obtain⟨n,hnn⟩:=eX ((qC4 c).length);have Hn:=hZ hnn;rw[hnn]at hL;clear hnn;obtain⟨ai,ci,rfl,hi1,hi2⟩:=hc.items.form;obtain⟨ar,cr,rfl,hr1,hr2⟩:=hc.rules.form;have HC:=hZ hc;clear hc;unfold qBo;obtain⟨w1,hw1⟩:=eX (w.alloc (.cells #[.slice ai c.items.length ci,.slice ar c.rules.length cr,.slice none 0 0,.slice none 0 0] 28));have HB:Hid (Below w.heap.size w w1):=hZ (by rw[<-hw1];exact aR);have HX:Hid (qBw w1 w.heap.size (.slice ai c.items.length ci) (.slice ar c.rules.length cr)):=hZ (by rw[<-hw1];exact qBw.new _ _ _);have m0:=HX.o.c0;have m1:=HX.o.c1;have m2:=HX.o.c2;have m3:=HX.o.c3;have mlt:=HX.o.lt
 go_enter Tryz.func18,Tryz.ntmps18
 go_wp2_with fail
 clear hw1;refine(HV9.o w1 HB.o).mono ?_;rintro e w2 ⟨rfl,hB⟩;have HX1:=hZ (HX.o.below hB);replace HB:=bT HB hB;clear hB HX m0 m1 m2 m3 mlt;have HX:=HX1;clear HX1;have m0:=HX.o.c0;have m1:=HX.o.c1;have m2:=HX.o.c2;have m3:=HX.o.c3;have mlt:=HX.o.lt
 go_wp2_with fail
 refine(qJE _ _ c w2 (HC.o.below HB.o) HF.o.good).mono ?_;rintro e w3 ⟨⟨v,rfl,hR⟩,hB⟩;have HRs:=hZ hR;have HX3:=hZ (HX.o.below hB);replace HB:=bT HB hB;clear hB HX hR m0 m1 m2 m3 mlt;obtain⟨al,cl,rfl,hl1,hl2⟩:=qAb.form HRs.o;rw[Hn.o]at HRs hl1 ⊢;have HEn:Hid ((qCH c).length=n):=hZ (by unfold qCH;rw[List.length_map];exact Hn.o);have HX:=HX3;clear HX3;have m0:=HX.o.c0;have m1:=HX.o.c1;have m2:=HX.o.c2;have m3:=HX.o.c3;have mlt:=HX.o.lt;obtain⟨N,hNN⟩:=eX c.items.length;have HNN:=hZ hNN;rw[hNN]at hn6 HRs m0 HX ⊢;clear hNN;have HSz3:=hZ HB.o.size
 go_wp2_with fail
 have HY:Hid (YMt w3 w3.heap.size (.slice none 0 0) [] n ((qC0 N (qCH c)).take 0)):=hZ (YMt.nil w3 _ n);have HS:Hid (Below w3.heap.size w3 w3):=hZ (Below.refl _ _);clear m0 m1 m2 m3
 go_loopw [7,6] (fun iv ov wr=>∃(i:Nat) (ga:Option Addr) (gc:Nat) (lo:List Yw),i<=N/\iv=.int .i64 i/\ov=.slice ga i gc/\Hid (lo.length=i)/\Hid (YMt wr w3.heap.size (.slice ga i gc) lo n ((qC0 N (qCH c)).take i))/\Hid (Below w3.heap.size w3 wr)) (fun iv _ _=>N-(intOf iv).toNat)
 case atStart=>exact⟨0,none,0,[],by omega,rfl,rfl,hZ rfl,HY,HS⟩
 case round=>
  clear HY HS;obtain⟨i,ga,gc,lo,hi,rfl,rfl,HLo,HY,HS⟩:=hrel;obtain⟨ws,rfl⟩:=eY wr;have m0:=(HX.o.below HS.o).c0;have HS0:=hZ HS.o.size;by_cases hiN:i<N
  ·skip
   have i1:(0:Int)<=(i:Int):=by omega
   have i2:(i:Int)<(N:Int):=by omega
   have hic:i<(qC0 N (qCH c)).length:=by rw[qAQ];exact hiN
   obtain⟨r,hr⟩:=eX ((qC0 N (qCH c))[i]);have Hr:=hZ hr;have hre:r=(qCH c).map (fun f=>f i):=by rw[<-hr];exact qN1 i hiN
   have Hre:=hZ hre;have hrn:r.length=n:=by rw[hre,List.length_map];exact HEn.o
   clear hr hre;have HW:Hid (Below ws.heap.size ws ws):=hZ (Below.refl _ _)
   go_wp2_with fail
   clear m0
   go_loopw [9,8] (fun kv rv wr=>∃(j:Nat) (ra:Option Addr) (rc:Nat),j<=n/\kv=.int .i64 j/\rv=.slice ra j rc/\Hid (wr.ownsRow ws.heap.size 3 1 (.slice ra j rc) j ((r.take j).map zv))/\Hid (Below ws.heap.size ws wr)) (fun kv _ _=>n-(intOf kv).toNat)
   case atStart=>exact⟨0,none,0,by omega,rfl,rfl,hZ (World.ownsRow_nil _ _ _ _),HW⟩
   case round=>
    clear HW;obtain⟨j,ra,rc,hj,rfl,rfl,HO,HW⟩:=hrel;obtain⟨w4,rfl⟩:=eY wr;have HSw:=hZ (HS.o.trans (HW.o.mono HS.o.size));by_cases hjn:j<n
    ·skip
     have j1:(0:Int)<=(j:Int):=by omega
     have j2:(j:Int)<(n:Int):=by omega
     have hjr:j<r.length:=by rw[hrn];exact hjn
     have hjL:j<(qC4 c).length:=by rw[Hn.o];exact hjn
     obtain⟨b,cap,g,hv,hb,d1,hg⟩:=(HRs.o.below HSw.o).at_ j hjL;injection hv with f1 f2 f3;subst f1;clear f2 f3;have d2:w4.cell? ⟨g,i,none⟩=some (.int .i64 ((qC4 c)[j].2 i)):=(hg.cell i).trans (qBC N _ i hiN);obtain⟨x,hx⟩:=eX ((qC4 c)[j].2 i);rw[hx]at d2;have Hx:Hid (x=r[j]):=hZ (by rw[<-hx];simp only[Hre.o,qCH,List.getElem_map]);clear hx hg
     go_wp2_with (at_builtin;refine qAn (W0:=ws) qEP rfl _ _ rfl [.int .i64 x] 3 (.slice ra j rc) j ((r.take j).map zv) rfl rfl rfl (by simp[Value.oneCell']) HO.o HW.o HW.o.size (by omega) (by omega) ?_)
     intro g9 cap9 w9 ho9 hb9 hon9 hc9 hgg;obtain⟨w5,rfl⟩:=eY w9;clear d1 d2
     go_wp2_with fail
     go_roundw
     case rel=>exact⟨j+1,some ⟨g9,0,none⟩,cap9,by omega,by go_num,rfl,hZ (by rw[qR5 hjr Hx.o,List.map_append,List.map_take];exact ho9.o),hb9⟩
     case measure=>simp[intOf];omega
    ·skip
     have hjn2:j=n:=by omega
     have HOr:Hid (w4.ownsRow ws.heap.size 3 1 (.slice ra n rc) n (r.map zv)):=hZ (by have h9:=HO.o;rw[hjn2,List.take_of_length_le (by omega)]at h9;exact h9);have HY1:Hid ((∀g,(Value.slice ga i gc).ownBlock=some g->g<ws.heap.size)/\∀t (ht:t<lo.length) g,(yV n lo[t]).ownBlock=some g->g<ws.heap.size):=hZ ⟨fun g hg=>(HY.o.own.lt g hg).2,fun t ht g hg=>((HY.o.row t ht (by rw[HY.o.len];exact ht)).1.lt g hg).2⟩;replace HY:=hZ (HY.o.blw HW.o);replace HS:=HSw;clear HSw;have Hjn2:=hZ hjn2;have j2:¬(j:Int)<(n:Int):=by omega
     clear hjn2 hjn
     go_wp2_with (at_builtin;refine qAn (W0:=w3) qRJ rfl _ _ rfl [.slice ra j rc] 22 (.slice ga i gc) i (lo.map (yV n)) rfl rfl rfl (by simp[Value.oneCell']) (by have h9:=HY.o.own;rw[HLo.o]at h9;exact h9) HS.o HS.o.size (by omega) (by omega) ?_)
     intro g9 cap9 w9 ho9 hb9 hon9 hc9 hgg;obtain⟨w5,rfl⟩:=eY w9;rw[Hjn2.o]at ho9
     go_wp2_with fail
     go_roundw
     case rel=>
      refine⟨i+1,some ⟨g9,0,none⟩,cap9,lo++[(ra,rc)],by omega,by go_num,rfl,hZ (by simp[HLo.o]),hZ ?_,hb9⟩;have h9:=YMt.snoc (g:=g9) (c:=cap9) (x:=(ra,rc)) (r:=r) HY.o (qOA HOr.o HS0.o) hrn (fun t ht b hb e=>by have h8:=HY1.o.2 t ht b hb;have h7:=HOr.o.lt b e;omega) hon9.o (by have h8:=ho9.o;rw[HLo.o];exact h8);rw[HLo.o]at h9;rw[List.take_succ_eq_append_getElem hic,Hr.o];exact h9
     case measure=>simp[intOf];omega
  ·skip
   have hie:i=N:=by omega
   have HYf:Hid (qA8 ws (.slice ga i gc) (qC0 N (qCH c))):=hZ (by have h9:=HY.o.mat;rwa [List.take_of_length_le (by rw[qAQ];omega)]at h9);have HBf:=hZ (HB.o.trans (HS.o.mono HB.o.size));have i3:¬(i:Int)<(N:Int):=by omega
   clear hie
   go_wp2_with fail
   exact bodyPost_ret (v:=.tuple #[.slice ga i gc,.int .i64 0]) (by simp[results,Tryz.results18,go_sem]) rfl ⟨⟨_,rfl,by rw[HNN.o];exact HYf.o⟩,HBf.o⟩
attribute [local go_sem] Oper.semAt_some
def qMb(c:Cat):Cat:=⟨c.items++c.items.take 1,c.rules⟩
theorem qAM.more{n m M K:Nat}{l:List Amt}(h:qAM n M K l)(hnm:n<=m):qAM m M K l:=⟨h.sorted,fun a ha=>by have:=h.all a ha;omega,h.len⟩
theorem qD2.more{n m:Nat}{r:Rul}(h:qD2 n r)(hnm:n<=m):qD2 m r:=⟨h.take.more hnm,h.give.more hnm,h.back.more hnm,h.of1,h.of2,h.time,h.hasBack,h.spawn,h.player,h.within⟩
structure qSn(c:Cat):Prop where
 good:qHf c
 named:qJn c
 dup:¬c.items.Nodup
theorem qQ3{c:Cat}(hf:qL8 c)(h5:c.items.length<=5):qSn (qMb c):=by
 have h1:=hf.good.some_;have hl:(qMb c).items.length=c.items.length+1:=by unfold qMb;simp;omega
 refine⟨⟨by omega,by omega,hf.good.rules,fun r hr=>(hf.good.each r hr).more (by omega)⟩,⟨fun n hn=> ?_,hf.named.2⟩,fun hd=> ?_⟩
 ·rcases List.mem_append.1 hn with h|h
  ·exact hf.named.1 n h
  ·exact hf.named.1 n (List.mem_of_mem_take h)
 ·unfold qMb at hd
  obtain⟨x,l,hx⟩:∃x l,c.items=x::l:=by
   cases hc:c.items with
   |nil=>rw[hc]at h1;simp at h1
   |cons x l=>exact⟨x,l,rfl⟩
  rw[hx]at hd;simp at hd
theorem qR6(l:List Tx)(h:1<=l.length):l.take 1=[l[0]'(by omega)]:=by
 cases l with
 |nil=>simp at h
 |cons x l=>rfl
theorem qIL(l:List Tx):(l.flatMap qBF).length=l.length*7:=by
 induction l with
 |nil=>rfl
 |cons x l ih=>rw[List.flatMap_cons,List.length_append,ih,List.length_cons];simp[qBF];omega
theorem qF0(l:List Tx):∀u∈l.flatMap qBF,u.oneCell'=true:=by
 intro u hu;obtain⟨t,_,hm⟩:=List.mem_flatMap.1 hu;simp only[qBF,zv,List.mem_cons,List.not_mem_nil,or_false]at hm;rcases hm with rfl|rfl|rfl|rfl|rfl|rfl|rfl<;>rfl
theorem qDW{w:World}{g n cap:Nat}{l:List Tx}(h:qAL w (.slice (some ⟨g,0,none⟩) n cap) l)(hn:n=l.length):∀q u,(l.flatMap qBF)[q]? =some u->w.cell? ((⟨g,0,none⟩:Addr).add q)=some u:=by
 intro q u hu;have hq:q<l.length*7:=by
  rw[<-qIL];rcases Nat.lt_or_ge q (l.flatMap qBF).length with h1|h1
  ·exact h1
  ·rw[List.getElem?_eq_none h1]at hu;cases hu
 obtain⟨b,cap',cs,hv,hb,hcs,_,hc⟩:=qAb.at_ h (q/7) (by omega);subst hn;injection hv with e1 e2 e3;injection e1 with e1;injection e1 with e1;subst e1 hcs;have hadd:(⟨g,0,none⟩:Addr).add q=⟨g,q,none⟩:=by unfold Addr.add;split<;>simp_all
 have h1:=hc (q%7) (by omega);have h2:=qCA (l.map qBF) 7 (q/7) (q%7) (by simp[qBF]) (by simp;omega) (by omega);rw[<-List.flatMap_def,show q/7*7+q%7=q by omega,hu]at h2;rw[hadd];rw[show q/7*7+q%7=q by omega]at h1;rw[h1,h2,List.getElem_map]
theorem qLf(vi vr:Value)(c:Cat)(w:World)(hc:qAS w vi vr c)(h1:1<=c.items.length)(h6:c.items.length<=6):
 Calls Tryz.prog 19 #[qBo vi vr] w fun e w'=>(∃vi',e=.returned (qBo vi' vr)/\qAS w' vi' vr (qMb c))/\Below w.heap.size w w':=by
 obtain⟨bi,ci,cs0,hv,hbi,rfl,_,hcc⟩:=qAb.at_ hc.items 0 (by omega);subst hv;obtain⟨ar,cr,rfl,hr1,hr2⟩:=hc.rules.form;have hci:c.items.length<=ci/\ci<=9223372036854775807:=by
  obtain⟨a',c',hv,h1,h2⟩:=hc.items.form;injection hv with _ _ e3;omega
 have HC:=hZ hc;have HBD:Hid (qMb c=⟨c.items++[c.items[0]'(by omega)],c.rules⟩):=hZ (by
  unfold qMb;rw[qR6 c.items h1])
 have HCC:=hZ (fun i (hi:i<7)=>by have:=hcc i hi;rwa [Nat.zero_mul,Nat.zero_add]at this);obtain⟨x,hx⟩:=eX (c.items[0]'(by omega));rw[hx]at HCC HBD;have hfl:=qIL c.items;have h1':0<c.items.length:=by omega
 have h1i:(0:Int)<(c.items.length:Int):=by omega
 obtain⟨w1,hw1⟩:=eX ((w.alloc (.cells #[.slice (some ⟨bi,0,none⟩) c.items.length ci,.slice ar c.rules.length cr,.slice none 0 0,.slice none 0 0] 28)).alloc (.cells #[.slice none 0 0,.slice none 0 0,.slice none 0 0,.slice none 0 0] 28));have HB:Hid (Below w.heap.size w w1):=hZ (by rw[<-hw1];exact aR.alloc (by simp) _);have HX:Hid (qAf w1 w.heap.size 28 [.slice (some ⟨bi,0,none⟩) c.items.length ci,.slice ar c.rules.length cr,.slice none 0 0,.slice none 0 0]):=hZ (by rw[<-hw1];exact(qAf.new w 28 [.slice (some ⟨bi,0,none⟩) c.items.length ci,.slice ar c.rules.length cr,.slice none 0 0,.slice none 0 0]).alloc _);have HR:Hid (qAf w1 (w.heap.size+1) 28 [.slice none 0 0,.slice none 0 0,.slice none 0 0,.slice none 0 0]):=hZ (by
  rw[<-hw1];have h9:=qAf.new (w.alloc (.cells #[.slice (some ⟨bi,0,none⟩) c.items.length ci,.slice ar c.rules.length cr,.slice none 0 0,.slice none 0 0] 28)) 28 [.slice none 0 0,.slice none 0 0,.slice none 0 0,.slice none 0 0];simpa using h9)
 have HI:=hZ (hc.items.below HB.o);have HC1:=hZ (hc.below HB.o);have hcs:∀W,Below w1.heap.size w1 W->W.cell? ⟨bi,0,none⟩=some (.string ⟨x.toArray⟩)/\W.cell? ⟨bi,1,none⟩=some (.bool false)/\W.cell? ⟨bi,2,none⟩=some (.bool false)/\W.cell? ⟨bi,3,none⟩=some (.bool false)/\W.cell? ⟨bi,4,none⟩=some (.int .i64 0)/\W.cell? ⟨bi,5,none⟩=some (.int .i64 0)/\W.cell? ⟨bi,6,none⟩=some (.int .i64 0):=by
  intro W hW;have hWw:Below w.heap.size w W:=HB.o.trans (hW.mono HB.o.size);have key:∀i,i<7->W.cell? ⟨bi,i,none⟩=(qBF x)[i]? :=fun i hi=>(hWw.cell (p:=⟨bi,i,none⟩) hbi).trans (HCC.o i hi);exact⟨key 0 (by omega),key 1 (by omega),key 2 (by omega),key 3 (by omega),key 4 (by omega),key 5 (by omega),key 6 (by omega)⟩
 clear hc hcc hx;unfold qBo
 go_enter Tryz.func19,Tryz.ntmps19
 go_wp2_with fail
 clear hw1;obtain⟨wd,hwd⟩:=eX w1.drew;have HBW:Hid (Below w1.heap.size w1 wd):=hZ (by rw[<-hwd];exact(Below.refl _ _).drew);refine qBQ 11 (fun W=>W.cell? ⟨w.heap.size,0,none⟩=some (.slice (some ⟨bi,0,none⟩) c.items.length ci)/\W.cell? ⟨bi,0,none⟩=some (.string ⟨x.toArray⟩)/\W.cell? ⟨bi,1,none⟩=some (.bool false)/\W.cell? ⟨bi,2,none⟩=some (.bool false)/\W.cell? ⟨bi,3,none⟩=some (.bool false)/\W.cell? ⟨bi,4,none⟩=some (.int .i64 0)/\W.cell? ⟨bi,5,none⟩=some (.int .i64 0)/\W.cell? ⟨bi,6,none⟩=some (.int .i64 0)) (by kernel_rfl) (by rw[hwd];exact⟨(HX.o.below HBW.o HX.o.lt).cell 0,hcs _ HBW.o⟩) (fun hHeld=> ?_);rw[hwd]at hHeld ⊢;clear hwd;refine kU 1 4 ?_;refine kU 2 5 ?_;refine kU 4 7 ?_;refine kU 5 8 ?_;refine kU 6 9 ?_;refine kU 7 10 ?_;refine qQG [0,8] (by kernel_rfl) (by simp) ⟨qEM 0 rfl (fun K hK=> ?_),qEM 8 rfl (fun K hK=> ?_),trivial⟩
 ·skip
  go_simp;obtain⟨wk1,hw2⟩:=eX (wd.alloc (.cells #[] 61));have hB:Below wd.heap.size wd wk1:=by rw[<-hw2];exact aR
  obtain⟨g0,hG⟩:=eX wd.heap.size;have HO:Hid (wk1.ownsRow w1.heap.size 61 7 (.slice (some ⟨g0,0,none⟩) 0 0) 0 []):=hZ (by rw[<-hw2,<-hG];exact World.ownsRow_made wd #[] 0 HBW.o.size (by unfold maxLen;omega) (by simp));replace HBW:=bT HBW hB;rw[hw2,hG];have hg0:g0<wk1.heap.size:=by rw[<-hw2,<-hG];simp
  clear hB hw2 hG hHeld
  go_wp2_with fail
  refine hK.out _ _ (⟨(HX.o.below HBW.o HX.o.lt).cell 0,hcs _ HBW.o⟩) (fun hHeld=> ?_);clear hK K
  try simp only[Act.put,List.setIfInBounds_toArray,List.set_cons_zero,List.set_cons_succ]
  refine qQG [3,8] (by kernel_rfl) (by simp) ⟨qEM 3 rfl (fun K hK=> ?_),qEM 8 rfl (fun K hK=> ?_),trivial⟩
  ·skip
   refine qCc (W0:=w1) (B:=w1.heap.size) qCR rfl 6 rfl _ _ rfl (.slice (some ⟨g0,0,none⟩) 0 0) 0 [] rfl ⟨bi,0,none⟩ c.items.length ci (c.items.flatMap qBF) rfl hfl (qDW (HI.o.below HBW.o) rfl) (qF0 c.items) (by omega) HO.o HBW.o HBW.o.size (by omega) (by omega) ?_;intro g3 cap3 wk2 HO3 HB3 HOn3 hcap3 hcap3b;clear hHeld HOn3 HO HBW;have HO:=HO3;rw[Nat.zero_add,List.nil_append]at HO;rw[Nat.zero_add]at hcap3b;have HBW:=HB3;clear HO3 HB3;simp only[List.setIfInBounds_toArray,List.set_cons_zero,List.set_cons_succ,Nat.zero_add]
   go_wp2_with fail
   refine hK.out _ _ (⟨(HX.o.below HBW.o HX.o.lt).cell 0,hcs _ HBW.o⟩) (fun hHeld=> ?_);clear hK K
   try simp only[Act.put,List.setIfInBounds_toArray,List.set_cons_zero,List.set_cons_succ]
   refine qA2 8 (by kernel_rfl) rfl (fun K hK=> ?_);go_simp;obtain⟨wk3,hw2⟩:=eX (wk2.alloc (.cells #[.string ⟨x.toArray⟩,.bool false,.bool false,.bool false,.int .i64 0,.int .i64 0,.int .i64 0] 61));have hB:Below wk2.heap.size wk2 wk3:=by rw[<-hw2];exact aR
   obtain⟨g8,hG⟩:=eX wk2.heap.size;have HK8:Hid (qAf wk3 g8 61 (qBF x)):=hZ (by rw[<-hw2,<-hG];exact qAf.new _ _ _);replace HBW:=bT HBW hB;rw[hw2,hG];replace HO:=hZ ((qAc.of_below (S:=fun _=>False) hB).own HO.o (fun _ _ h=>h));clear hB hw2 hG hHeld
   go_wp2_with fail
   refine hK.out _ _ (⟨(HX.o.below HBW.o HX.o.lt).cell 0,hcs _ HBW.o⟩) (fun hHeld=> ?_);clear hK K
   try simp only[Act.put,List.setIfInBounds_toArray,List.set_cons_zero,List.set_cons_succ]
   have HNW:Hid (∀q u,(qBF x)[q]? =some u->wk3.cell? ((⟨g8,0,none⟩:Addr).add q)=some u):=hZ (fun q u hu=>by
    have hadd:(⟨g8,0,none⟩:Addr).add q=⟨g8,q,none⟩:=by unfold Addr.add;split<;>simp_all
    rw[hadd,HK8.o.cell];exact hu)
   refine qA2 9 (by kernel_rfl) rfl (fun K hK=> ?_);refine qCc (W0:=w1) (B:=w1.heap.size) qCR rfl 12 rfl _ _ rfl (.slice (some ⟨g3,0,none⟩) c.items.length cap3) c.items.length (c.items.flatMap qBF) rfl ⟨g8,0,none⟩ 1 1 (qBF x) rfl (by simp[qBF]) HNW.o (by simp[qBF,zv,Value.oneCell']) (by omega) HO.o HBW.o HBW.o.size (by omega) (by omega) ?_;intro g9 cap9 w9 HO9 HB9 HOn9 hcap9 hcap9b;clear hHeld HOn9 HNW;simp only[List.setIfInBounds_toArray,List.set_cons_zero,List.set_cons_succ]
   go_wp2_with fail
   refine hK.out _ _ (⟨(HX.o.below HB9.o HX.o.lt).cell 0,hcs _ HB9.o⟩) (fun hHeld=> ?_);clear hK K
   try simp only[Act.put,List.setIfInBounds_toArray,List.set_cons_zero,List.set_cons_succ]
   refine kU 10 13 ?_;have hx9:=HX.o.below HB9.o HX.o.lt;have hxf:=hx9.frozen 0;have hxc:=hx9.cell 0;simp only[List.getElem?_cons_zero]at hxc;refine qFd (by kernel_rfl) rfl (by kernel_rfl) (fun K hK=> ?_);go_simp;refine hK.out _ _ ?_;clear hK K
   try simp only[Act.put,List.setIfInBounds_toArray,List.set_cons_zero,List.set_cons_succ]
   clear hHeld hxf hxc;have HIT9:Hid (qAL w9 (.slice (some ⟨g9,0,none⟩) (c.items.length+1) cap9) (c.items++[x])):=hZ (by
    have h9:=HO9.o;exact qCp (base:=w1.heap.size) (e:=61) (by rw[List.length_append,List.flatMap_append];simpa using h9))
   have hr9:=HR.o.below HB9.o HR.o.lt;have z0:=hx9.cell 0;have z1:=hx9.cell 1;have z2:=hx9.cell 2;have z3:=hx9.cell 3;have y0:=hr9.cell 0;have y1:=hr9.cell 1;have y2:=hr9.cell 2;have y3:=hr9.cell 3;have yf0:=hr9.frozen 0;have yf1:=hr9.frozen 1;have yf2:=hr9.frozen 2;have yf3:=hr9.frozen 3;simp only[List.getElem?_cons_succ,List.getElem?_cons_zero]at z0 z1 z2 z3 y0 y1 y2 y3
   go_wp2_with fail
   obtain⟨vz,hvz⟩:=eX (Value.slice (some ⟨g9,0,none⟩) (c.items.length+1) cap9);rw[hvz]at HIT9 ⊢;have HRZ:=(((((hr9.far (p:=⟨w.heap.size,0,none⟩) (show w.heap.size+1≠w.heap.size by omega) vz).set 0 vz).set 1 (.slice ar c.rules.length cr)).set 2 (.slice none 0 0)).set 3 (.slice none 0 0));have HOZ:qAc (fun b=>b=w.heap.size\/b=w.heap.size+1) w9 (((((w9.setCell ⟨w.heap.size,0,none⟩ vz).setCell ⟨w.heap.size+1,0,none⟩ vz).setCell ⟨w.heap.size+1,1,none⟩ (.slice ar c.rules.length cr)).setCell ⟨w.heap.size+1,2,none⟩ (.slice none 0 0)).setCell ⟨w.heap.size+1,3,none⟩ (.slice none 0 0)):=
    (((((qAc.refl _ w9).set (p:=⟨w.heap.size,0,none⟩) (Or.inl rfl) vz).set (p:=⟨w.heap.size+1,0,none⟩) (Or.inr rfl) vz).set (p:=⟨w.heap.size+1,1,none⟩) (Or.inr rfl) _).set (p:=⟨w.heap.size+1,2,none⟩) (Or.inr rfl) _).set (p:=⟨w.heap.size+1,3,none⟩) (Or.inr rfl) _
   obtain⟨wz,hwz⟩:=eX ((((((w9.setCell ⟨w.heap.size,0,none⟩ vz).setCell ⟨w.heap.size+1,0,none⟩ vz).setCell ⟨w.heap.size+1,1,none⟩ (.slice ar c.rules.length cr)).setCell ⟨w.heap.size+1,2,none⟩ (.slice none 0 0)).setCell ⟨w.heap.size+1,3,none⟩ (.slice none 0 0)));rw[hwz]at HRZ HOZ ⊢;have HB9z:=HB.o.trans (HB9.o.mono HB.o.size);have HBZ:Below w.heap.size w wz:=HOZ.below HB9z HB9z.size (fun k hk=>by rcases hk with hk|hk<;>omega);have r0:=HRZ.cell 0;have r1:=HRZ.cell 1;have r2:=HRZ.cell 2;have r3:=HRZ.cell 3;simp only[List.set_cons_zero,List.set_cons_succ,List.getElem?_cons_succ,List.getElem?_cons_zero]at r0 r1 r2 r3;have HITZ:qAL wz vz (c.items++[x]):=qAb.onlyS HIT9.o HOZ (fun b hb y cs hc=>⟨2,by omega,by rw[hc];rcases hb with rfl|rfl<;>simp[z2,y2,qBF]⟩) (fun _ _ h=>h);have HCZ:qAS wz vz (.slice ar c.rules.length cr) (qMb c):=by
    rw[HBD.o];exact⟨HITZ,HC.o.rules.below HBZ⟩
   exact bodyPost_ret (v:=qBo vz (.slice ar c.rules.length cr)) (by simp[results,Tryz.results19,go_sem,qBo,r0,r1,r2,r3]) rfl ⟨⟨_,rfl,HCZ⟩,HBZ⟩
  ·skip
   go_simp;obtain⟨wk2,hw2⟩:=eX (wk1.alloc (.cells #[.string ⟨x.toArray⟩,.bool false,.bool false,.bool false,.int .i64 0,.int .i64 0,.int .i64 0] 61));have hB:Below wk1.heap.size wk1 wk2:=by rw[<-hw2];exact aR
   obtain⟨g8,hG⟩:=eX wk1.heap.size;have HK8:Hid (qAf wk2 g8 61 (qBF x)):=hZ (by rw[<-hw2,<-hG];exact qAf.new _ _ _);replace HBW:=bT HBW hB;rw[hw2,hG];have hne:g8≠g0:=by omega
   replace HO:=hZ ((qAc.of_below (S:=fun _=>False) hB).own HO.o (fun _ _ h=>h));clear hB hw2 hG hHeld
   go_wp2_with fail
   refine hK.out _ _ (⟨(HX.o.below HBW.o HX.o.lt).cell 0,hcs _ HBW.o⟩) (fun hHeld=> ?_);clear hK K
   try simp only[Act.put,List.setIfInBounds_toArray,List.set_cons_zero,List.set_cons_succ]
   refine qA2 3 (by kernel_rfl) rfl (fun K hK=> ?_);refine qCc (W0:=w1) (B:=w1.heap.size) qCR rfl 6 rfl _ _ rfl (.slice (some ⟨g0,0,none⟩) 0 0) 0 [] rfl ⟨bi,0,none⟩ c.items.length ci (c.items.flatMap qBF) rfl hfl (qDW (HI.o.below HBW.o) rfl) (qF0 c.items) (by omega) HO.o HBW.o HBW.o.size (by omega) (by omega) ?_;intro g3 cap3 wk3 HO3 HB3 HOn3 hcap3 hcap3b;replace HK8:=hZ (HK8.o.only HOn3.o (fun hs=>by have:=hs;simp[Value.ownBlock]at this;exact hne this.symm));clear hHeld HOn3 HO HBW;have HO:=HO3;rw[Nat.zero_add,List.nil_append]at HO;rw[Nat.zero_add]at hcap3b;have HBW:=HB3;clear HO3 HB3;simp only[List.setIfInBounds_toArray,List.set_cons_zero,List.set_cons_succ,Nat.zero_add]
   go_wp2_with fail
   refine hK.out _ _ (⟨(HX.o.below HBW.o HX.o.lt).cell 0,hcs _ HBW.o⟩) (fun hHeld=> ?_);clear hK K
   try simp only[Act.put,List.setIfInBounds_toArray,List.set_cons_zero,List.set_cons_succ]
   have HNW:Hid (∀q u,(qBF x)[q]? =some u->wk3.cell? ((⟨g8,0,none⟩:Addr).add q)=some u):=hZ (fun q u hu=>by
    have hadd:(⟨g8,0,none⟩:Addr).add q=⟨g8,q,none⟩:=by unfold Addr.add;split<;>simp_all
    rw[hadd,HK8.o.cell];exact hu)
   refine qA2 9 (by kernel_rfl) rfl (fun K hK=> ?_);refine qCc (W0:=w1) (B:=w1.heap.size) qCR rfl 12 rfl _ _ rfl (.slice (some ⟨g3,0,none⟩) c.items.length cap3) c.items.length (c.items.flatMap qBF) rfl ⟨g8,0,none⟩ 1 1 (qBF x) rfl (by simp[qBF]) HNW.o (by simp[qBF,zv,Value.oneCell']) (by omega) HO.o HBW.o HBW.o.size (by omega) (by omega) ?_;intro g9 cap9 w9 HO9 HB9 HOn9 hcap9 hcap9b;clear hHeld HOn9 HNW;simp only[List.setIfInBounds_toArray,List.set_cons_zero,List.set_cons_succ]
   go_wp2_with fail
   refine hK.out _ _ (⟨(HX.o.below HB9.o HX.o.lt).cell 0,hcs _ HB9.o⟩) (fun hHeld=> ?_);clear hK K
   try simp only[Act.put,List.setIfInBounds_toArray,List.set_cons_zero,List.set_cons_succ]
   refine kU 10 13 ?_;have hx9:=HX.o.below HB9.o HX.o.lt;have hxf:=hx9.frozen 0;have hxc:=hx9.cell 0;simp only[List.getElem?_cons_zero]at hxc;refine qFd (by kernel_rfl) rfl (by kernel_rfl) (fun K hK=> ?_);go_simp;refine hK.out _ _ ?_;clear hK K
   try simp only[Act.put,List.setIfInBounds_toArray,List.set_cons_zero,List.set_cons_succ]
   clear hHeld hxf hxc;have HIT9:Hid (qAL w9 (.slice (some ⟨g9,0,none⟩) (c.items.length+1) cap9) (c.items++[x])):=hZ (by
    have h9:=HO9.o;exact qCp (base:=w1.heap.size) (e:=61) (by rw[List.length_append,List.flatMap_append];simpa using h9))
   have hr9:=HR.o.below HB9.o HR.o.lt;have z0:=hx9.cell 0;have z1:=hx9.cell 1;have z2:=hx9.cell 2;have z3:=hx9.cell 3;have y0:=hr9.cell 0;have y1:=hr9.cell 1;have y2:=hr9.cell 2;have y3:=hr9.cell 3;have yf0:=hr9.frozen 0;have yf1:=hr9.frozen 1;have yf2:=hr9.frozen 2;have yf3:=hr9.frozen 3;simp only[List.getElem?_cons_succ,List.getElem?_cons_zero]at z0 z1 z2 z3 y0 y1 y2 y3
   go_wp2_with fail
   obtain⟨vz,hvz⟩:=eX (Value.slice (some ⟨g9,0,none⟩) (c.items.length+1) cap9);rw[hvz]at HIT9 ⊢;have HRZ:=(((((hr9.far (p:=⟨w.heap.size,0,none⟩) (show w.heap.size+1≠w.heap.size by omega) vz).set 0 vz).set 1 (.slice ar c.rules.length cr)).set 2 (.slice none 0 0)).set 3 (.slice none 0 0));have HOZ:qAc (fun b=>b=w.heap.size\/b=w.heap.size+1) w9 (((((w9.setCell ⟨w.heap.size,0,none⟩ vz).setCell ⟨w.heap.size+1,0,none⟩ vz).setCell ⟨w.heap.size+1,1,none⟩ (.slice ar c.rules.length cr)).setCell ⟨w.heap.size+1,2,none⟩ (.slice none 0 0)).setCell ⟨w.heap.size+1,3,none⟩ (.slice none 0 0)):=
    (((((qAc.refl _ w9).set (p:=⟨w.heap.size,0,none⟩) (Or.inl rfl) vz).set (p:=⟨w.heap.size+1,0,none⟩) (Or.inr rfl) vz).set (p:=⟨w.heap.size+1,1,none⟩) (Or.inr rfl) _).set (p:=⟨w.heap.size+1,2,none⟩) (Or.inr rfl) _).set (p:=⟨w.heap.size+1,3,none⟩) (Or.inr rfl) _
   obtain⟨wz,hwz⟩:=eX ((((((w9.setCell ⟨w.heap.size,0,none⟩ vz).setCell ⟨w.heap.size+1,0,none⟩ vz).setCell ⟨w.heap.size+1,1,none⟩ (.slice ar c.rules.length cr)).setCell ⟨w.heap.size+1,2,none⟩ (.slice none 0 0)).setCell ⟨w.heap.size+1,3,none⟩ (.slice none 0 0)));rw[hwz]at HRZ HOZ ⊢;have HB9z:=HB.o.trans (HB9.o.mono HB.o.size);have HBZ:Below w.heap.size w wz:=HOZ.below HB9z HB9z.size (fun k hk=>by rcases hk with hk|hk<;>omega);have r0:=HRZ.cell 0;have r1:=HRZ.cell 1;have r2:=HRZ.cell 2;have r3:=HRZ.cell 3;simp only[List.set_cons_zero,List.set_cons_succ,List.getElem?_cons_succ,List.getElem?_cons_zero]at r0 r1 r2 r3;have HITZ:qAL wz vz (c.items++[x]):=qAb.onlyS HIT9.o HOZ (fun b hb y cs hc=>⟨2,by omega,by rw[hc];rcases hb with rfl|rfl<;>simp[z2,y2,qBF]⟩) (fun _ _ h=>h);have HCZ:qAS wz vz (.slice ar c.rules.length cr) (qMb c):=by
    rw[HBD.o];exact⟨HITZ,HC.o.rules.below HBZ⟩
   exact bodyPost_ret (v:=qBo vz (.slice ar c.rules.length cr)) (by simp[results,Tryz.results19,go_sem,qBo,r0,r1,r2,r3]) rfl ⟨⟨_,rfl,HCZ⟩,HBZ⟩
 ·skip
  go_simp;obtain⟨wk1,hw2⟩:=eX (wd.alloc (.cells #[.string ⟨x.toArray⟩,.bool false,.bool false,.bool false,.int .i64 0,.int .i64 0,.int .i64 0] 61));have hB:Below wd.heap.size wd wk1:=by rw[<-hw2];exact aR
  obtain⟨g8,hG⟩:=eX wd.heap.size;have HK8:Hid (qAf wk1 g8 61 (qBF x)):=hZ (by rw[<-hw2,<-hG];exact qAf.new _ _ _);replace HBW:=bT HBW hB;rw[hw2,hG];clear hB hw2 hG hHeld
  go_wp2_with fail
  refine hK.out _ _ (⟨(HX.o.below HBW.o HX.o.lt).cell 0,hcs _ HBW.o⟩) (fun hHeld=> ?_);clear hK K
  try simp only[Act.put,List.setIfInBounds_toArray,List.set_cons_zero,List.set_cons_succ]
  refine qA2 0 (by kernel_rfl) rfl (fun K hK=> ?_);go_simp;obtain⟨wk2,hw2⟩:=eX (wk1.alloc (.cells #[] 61));have hB:Below wk1.heap.size wk1 wk2:=by rw[<-hw2];exact aR
  obtain⟨g0,hG⟩:=eX wk1.heap.size;have HO:Hid (wk2.ownsRow w1.heap.size 61 7 (.slice (some ⟨g0,0,none⟩) 0 0) 0 []):=hZ (by rw[<-hw2,<-hG];exact World.ownsRow_made wk1 #[] 0 HBW.o.size (by unfold maxLen;omega) (by simp));replace HBW:=bT HBW hB;rw[hw2,hG];have hg0:g0<wk2.heap.size:=by rw[<-hw2,<-hG];simp
  have hne:g8≠g0:=by have:=HK8.o.lt;omega
  replace HK8:=hZ (HK8.o.below hB HK8.o.lt);clear hB hw2 hG hHeld
  go_wp2_with fail
  refine hK.out _ _ (⟨(HX.o.below HBW.o HX.o.lt).cell 0,hcs _ HBW.o⟩) (fun hHeld=> ?_);clear hK K
  try simp only[Act.put,List.setIfInBounds_toArray,List.set_cons_zero,List.set_cons_succ]
  refine qA2 3 (by kernel_rfl) rfl (fun K hK=> ?_);refine qCc (W0:=w1) (B:=w1.heap.size) qCR rfl 6 rfl _ _ rfl (.slice (some ⟨g0,0,none⟩) 0 0) 0 [] rfl ⟨bi,0,none⟩ c.items.length ci (c.items.flatMap qBF) rfl hfl (qDW (HI.o.below HBW.o) rfl) (qF0 c.items) (by omega) HO.o HBW.o HBW.o.size (by omega) (by omega) ?_;intro g3 cap3 wk3 HO3 HB3 HOn3 hcap3 hcap3b;replace HK8:=hZ (HK8.o.only HOn3.o (fun hs=>by have:=hs;simp[Value.ownBlock]at this;exact hne this.symm));clear hHeld HOn3 HO HBW;have HO:=HO3;rw[Nat.zero_add,List.nil_append]at HO;rw[Nat.zero_add]at hcap3b;have HBW:=HB3;clear HO3 HB3;simp only[List.setIfInBounds_toArray,List.set_cons_zero,List.set_cons_succ,Nat.zero_add]
  go_wp2_with fail
  refine hK.out _ _ (⟨(HX.o.below HBW.o HX.o.lt).cell 0,hcs _ HBW.o⟩) (fun hHeld=> ?_);clear hK K
  try simp only[Act.put,List.setIfInBounds_toArray,List.set_cons_zero,List.set_cons_succ]
  have HNW:Hid (∀q u,(qBF x)[q]? =some u->wk3.cell? ((⟨g8,0,none⟩:Addr).add q)=some u):=hZ (fun q u hu=>by
   have hadd:(⟨g8,0,none⟩:Addr).add q=⟨g8,q,none⟩:=by unfold Addr.add;split<;>simp_all
   rw[hadd,HK8.o.cell];exact hu)
  refine qA2 9 (by kernel_rfl) rfl (fun K hK=> ?_);refine qCc (W0:=w1) (B:=w1.heap.size) qCR rfl 12 rfl _ _ rfl (.slice (some ⟨g3,0,none⟩) c.items.length cap3) c.items.length (c.items.flatMap qBF) rfl ⟨g8,0,none⟩ 1 1 (qBF x) rfl (by simp[qBF]) HNW.o (by simp[qBF,zv,Value.oneCell']) (by omega) HO.o HBW.o HBW.o.size (by omega) (by omega) ?_;intro g9 cap9 w9 HO9 HB9 HOn9 hcap9 hcap9b;clear hHeld HOn9 HNW;simp only[List.setIfInBounds_toArray,List.set_cons_zero,List.set_cons_succ]
  go_wp2_with fail
  refine hK.out _ _ (⟨(HX.o.below HB9.o HX.o.lt).cell 0,hcs _ HB9.o⟩) (fun hHeld=> ?_);clear hK K
  try simp only[Act.put,List.setIfInBounds_toArray,List.set_cons_zero,List.set_cons_succ]
  refine kU 10 13 ?_;have hx9:=HX.o.below HB9.o HX.o.lt;have hxf:=hx9.frozen 0;have hxc:=hx9.cell 0;simp only[List.getElem?_cons_zero]at hxc;refine qFd (by kernel_rfl) rfl (by kernel_rfl) (fun K hK=> ?_);go_simp;refine hK.out _ _ ?_;clear hK K
  try simp only[Act.put,List.setIfInBounds_toArray,List.set_cons_zero,List.set_cons_succ]
  clear hHeld hxf hxc;have HIT9:Hid (qAL w9 (.slice (some ⟨g9,0,none⟩) (c.items.length+1) cap9) (c.items++[x])):=hZ (by
   have h9:=HO9.o;exact qCp (base:=w1.heap.size) (e:=61) (by rw[List.length_append,List.flatMap_append];simpa using h9))
  have hr9:=HR.o.below HB9.o HR.o.lt;have z0:=hx9.cell 0;have z1:=hx9.cell 1;have z2:=hx9.cell 2;have z3:=hx9.cell 3;have y0:=hr9.cell 0;have y1:=hr9.cell 1;have y2:=hr9.cell 2;have y3:=hr9.cell 3;have yf0:=hr9.frozen 0;have yf1:=hr9.frozen 1;have yf2:=hr9.frozen 2;have yf3:=hr9.frozen 3;simp only[List.getElem?_cons_succ,List.getElem?_cons_zero]at z0 z1 z2 z3 y0 y1 y2 y3
  go_wp2_with fail
  obtain⟨vz,hvz⟩:=eX (Value.slice (some ⟨g9,0,none⟩) (c.items.length+1) cap9);rw[hvz]at HIT9 ⊢;have HRZ:=(((((hr9.far (p:=⟨w.heap.size,0,none⟩) (show w.heap.size+1≠w.heap.size by omega) vz).set 0 vz).set 1 (.slice ar c.rules.length cr)).set 2 (.slice none 0 0)).set 3 (.slice none 0 0));have HOZ:qAc (fun b=>b=w.heap.size\/b=w.heap.size+1) w9 (((((w9.setCell ⟨w.heap.size,0,none⟩ vz).setCell ⟨w.heap.size+1,0,none⟩ vz).setCell ⟨w.heap.size+1,1,none⟩ (.slice ar c.rules.length cr)).setCell ⟨w.heap.size+1,2,none⟩ (.slice none 0 0)).setCell ⟨w.heap.size+1,3,none⟩ (.slice none 0 0)):=
   (((((qAc.refl _ w9).set (p:=⟨w.heap.size,0,none⟩) (Or.inl rfl) vz).set (p:=⟨w.heap.size+1,0,none⟩) (Or.inr rfl) vz).set (p:=⟨w.heap.size+1,1,none⟩) (Or.inr rfl) _).set (p:=⟨w.heap.size+1,2,none⟩) (Or.inr rfl) _).set (p:=⟨w.heap.size+1,3,none⟩) (Or.inr rfl) _
  obtain⟨wz,hwz⟩:=eX ((((((w9.setCell ⟨w.heap.size,0,none⟩ vz).setCell ⟨w.heap.size+1,0,none⟩ vz).setCell ⟨w.heap.size+1,1,none⟩ (.slice ar c.rules.length cr)).setCell ⟨w.heap.size+1,2,none⟩ (.slice none 0 0)).setCell ⟨w.heap.size+1,3,none⟩ (.slice none 0 0)));rw[hwz]at HRZ HOZ ⊢;have HB9z:=HB.o.trans (HB9.o.mono HB.o.size);have HBZ:Below w.heap.size w wz:=HOZ.below HB9z HB9z.size (fun k hk=>by rcases hk with hk|hk<;>omega);have r0:=HRZ.cell 0;have r1:=HRZ.cell 1;have r2:=HRZ.cell 2;have r3:=HRZ.cell 3;simp only[List.set_cons_zero,List.set_cons_succ,List.getElem?_cons_succ,List.getElem?_cons_zero]at r0 r1 r2 r3;have HITZ:qAL wz vz (c.items++[x]):=qAb.onlyS HIT9.o HOZ (fun b hb y cs hc=>⟨2,by omega,by rw[hc];rcases hb with rfl|rfl<;>simp[z2,y2,qBF]⟩) (fun _ _ h=>h);have HCZ:qAS wz vz (.slice ar c.rules.length cr) (qMb c):=by
   rw[HBD.o];exact⟨HITZ,HC.o.rules.below HBZ⟩
  exact bodyPost_ret (v:=qBo vz (.slice ar c.rules.length cr)) (by simp[results,Tryz.results19,go_sem,qBo,r0,r1,r2,r3]) rfl ⟨⟨_,rfl,HCZ⟩,HBZ⟩
theorem qFY(v1:Value)(zs1:List Int)(n1:Nat)(bal:Bool)(w:World)(h1:qBW w v1 zs1 n1)(hK:qAZ w)(hP:qC1 w):
 Calls Tryz.prog 5 #[v1,.bool bal] w fun e w'=>e=.returned (.bool true)/\Below w.heap.size w w':=by
 have HK:=hZ hK;have HP:=hZ hP;have HB:=hZ (Below.refl w.heap.size w);have hcat:=qGo v1 zs1 n1 bal w h1;have hp1:=qHv zs1 n1;obtain⟨c,hcc⟩:=eX (qBA (qQg zs1 n1) bal);have hf:=qF5 (bal:=bal) hp1;have hn5:=qG1 (bal:=bal) hp1;rw[hcc]at hcat hf hn5;have HF:=hZ hf;have HBO:=hZ (qQ3 hf hn5);have hn1:=hf.good.some_;have HRL:Hid ((qC4 c).length<=1000):=hZ (by have:=qJ4 hf.good;unfold qCH at this;rw[List.length_map]at this;omega);have HCAT:=hZ hcat;clear h1 hK hP hcat hp1 hcc hf
 go_enter Tryz.func5,Tryz.ntmps5
 go_wp2_with fail
 refine HCAT.o.mono ?_;clear HCAT;rintro e w1 ⟨⟨vi,vr,rfl,hc⟩,hB⟩;have HC:=hZ hc;obtain⟨ai,ci,rfl,hi1,hi2⟩:=hc.items.form;obtain⟨ar,cr,rfl,hr1,hr2⟩:=hc.rules.form;replace HB:=bT HB hB;clear hc hB;unfold qBo;obtain⟨nr,hnr⟩:=eX c.rules.length;obtain⟨ni,hni⟩:=eX c.items.length;have HNI:=hZ hni;rw[hnr]at hr1 HC ⊢;rw[hni]at hi1 HC hn5 hn1 ⊢;clear hnr hni
 go_wp2_with fail
 obtain⟨w2,hw2⟩:=eX (w1.alloc (.cells #[.slice ai ni ci,.slice ar nr cr,.slice none 0 0,.slice none 0 0] 28));obtain⟨bc,hbc⟩:=eX w1.heap.size;have hB:Below w1.heap.size w1 w2:=by rw[<-hw2];exact aR
 have HX:Hid (qBw w2 bc (.slice ai ni ci) (.slice ar nr cr)):=hZ (hw2▸hbc▸qBw.new w1 _ _:qBw w2 bc (.slice ai ni ci) (.slice ar nr cr));rw[hw2,hbc];replace HB:=bT HB hB;replace HC:=hZ (HC.o.below hB);clear hw2 hbc hB;refine(qE5 _ _ c w2 HC.o HF.o (HK.o.keep HB.o)).mono ?_;rintro e w3 ⟨⟨ua,rfl,hma⟩,hB⟩;obtain⟨aa,ca,rfl, -,-⟩:=hma.form;have MA:=hZ hma;rw[qAQ,HNI.o]at MA ⊢;replace HB:=bT HB hB;replace HC:=hZ (HC.o.below hB);replace HX:=hZ (HX.o.below hB)
 try replace MA:=hZ (MA.o.below hB)
 try replace MB:=hZ (MB.o.below hB)
 clear hB;clear hma;have x0:=HX.o.c0;have x1:=HX.o.c1;have x2:=HX.o.c2;have x3:=HX.o.c3;have xl:=HX.o.lt
 go_wp2_with fail
 clear x0 x1 x2 x3 xl;refine(qIt _ _ c w3 HC.o HF.o (fun w' h=>qLx _ _ c w' (HC.o.below h) HF.o) HRL.o).mono ?_;rintro e w4 ⟨⟨ub,rfl,hmb⟩,hB⟩;obtain⟨ab,cb,rfl, -,-⟩:=hmb.form;have MB:=hZ hmb;rw[qAQ,HNI.o]at MB ⊢;replace HB:=bT HB hB;replace HC:=hZ (HC.o.below hB);replace HX:=hZ (HX.o.below hB);replace MA:=hZ (MA.o.below hB);clear hmb hB;have x0:=HX.o.c0;have x1:=HX.o.c1;have x2:=HX.o.c2;have x3:=HX.o.c3;have xl:=HX.o.lt
 go_wp2_with fail
 clear x0 x1 x2 x3 xl;have hbd:=qLf _ _ c w4 HC.o (by rw[HNI.o];exact hn1) (by rw[HNI.o];omega);unfold qBo at hbd;refine hbd.mono ?_;clear hbd;rintro e w5 ⟨⟨vi5,rfl,hc5⟩,hB⟩;obtain⟨ai5,ci5,rfl, -,-⟩:=hc5.items.form;have HD:=hZ hc5;replace HB:=bT HB hB;replace HC:=hZ (HC.o.below hB);replace HX:=hZ (HX.o.below hB)
 try replace MA:=hZ (MA.o.below hB)
 try replace MB:=hZ (MB.o.below hB)
 clear hB;clear hc5
 go_wp2_with fail
 have hle:=qIH _ _ (qMb c) w5 HD.o HBO.o.good HBO.o.named HBO.o.dup (HK.o.keep HB.o);unfold qBo at hle;refine hle.mono ?_;clear hle HD;rintro e w6 ⟨rfl,hB⟩;replace HB:=bT HB hB;replace HC:=hZ (HC.o.below hB);replace HX:=hZ (HX.o.below hB)
 try replace MA:=hZ (MA.o.below hB)
 try replace MB:=hZ (MB.o.below hB)
 clear hB;have x0:=HX.o.c0;have x1:=HX.o.c1;have x2:=HX.o.c2;have x3:=HX.o.c3;have xl:=HX.o.lt
 go_wp2_with fail
 have hsm:=qKA _ _ _ _ w6 MA.o MB.o;rw[decide_eq_true rfl]at hsm;refine hsm.mono ?_;clear hsm;rintro e w7 ⟨rfl,hB⟩;clear x0 x1 x2 x3 xl;replace HB:=bT HB hB;replace HC:=hZ (HC.o.below hB);replace HX:=hZ (HX.o.below hB)
 try replace MA:=hZ (MA.o.below hB)
 try replace MB:=hZ (MB.o.below hB)
 clear hB;have x0:=HX.o.c0;have x1:=HX.o.c1;have x2:=HX.o.c2;have x3:=HX.o.c3;have xl:=HX.o.lt
 go_wp2_with fail
 clear x0 x1 x2 x3 xl;have hbd:=qLf _ _ c w7 HC.o (by rw[HNI.o];exact hn1) (by rw[HNI.o];omega);unfold qBo at hbd;refine hbd.mono ?_;clear hbd;rintro e w8 ⟨⟨vi8,rfl,hc8⟩,hB⟩;obtain⟨ai8,ci8,rfl, -,-⟩:=hc8.items.form;have HD:=hZ hc8;replace HB:=bT HB hB;replace HC:=hZ (HC.o.below hB);replace HX:=hZ (HX.o.below hB)
 try replace MA:=hZ (MA.o.below hB)
 try replace MB:=hZ (MB.o.below hB)
 clear hB;clear hc8
 go_wp2_with fail
 have hvb:=qIb _ _ (qMb c) w8 HD.o HBO.o.good HBO.o.named HBO.o.dup (HK.o.keep HB.o);unfold qBo at hvb;refine hvb.mono ?_;clear hvb HD;rintro e w9 ⟨rfl,hB⟩;replace HB:=bT HB hB;replace HC:=hZ (HC.o.below hB);replace HX:=hZ (HX.o.below hB)
 try replace MA:=hZ (MA.o.below hB)
 try replace MB:=hZ (MB.o.below hB)
 clear hB
 go_wp2_with fail
 refine(qDx w9 (HK.o.keep HB.o) (HP.o.below HB.o HP.o.lt)).mono ?_;rintro e w10 ⟨rfl,hB⟩;replace HB:=bT HB hB;replace HC:=hZ (HC.o.below hB);replace HX:=hZ (HX.o.below hB)
 try replace MA:=hZ (MA.o.below hB)
 try replace MB:=hZ (MB.o.below hB)
 clear hB
 go_wp2_with fail
 exact bodyPost_ret (v:=.bool true) (by simp[results,Tryz.results5,go_sem]) rfl ⟨rfl,HB.o⟩
end Go.Proofs.YtkjhlkngihponaaGreatDoor
