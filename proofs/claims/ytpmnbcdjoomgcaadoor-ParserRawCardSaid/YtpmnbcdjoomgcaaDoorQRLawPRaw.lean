/- The law ParserRaw: its walk. -/
import Derived.Test.YtpmnbcdjoomgcaaDoorQRPPut4
import Derived.Test.YtpmnbcdjoomgcaaDoorQRPGen
import Derived.Test.YtpmnbcdjoomgcaaDoorQRGSeq
set_option linter.unusedVariables false
set_option linter.unusedSimpArgs false
set_option maxHeartbeats 4000000
set_option maxRecDepth 100000
namespace Go.Proofs.YtpmnbcdjoomgcaaDoor
open Go.RowKit
theorem qGG(B b:Nat)(w:World)(hbk:w.heap[b]? =some (.cells #[.pointer none,.slice none 0 0,.bool false] 85 (0,0))):
 Calls Tryd.prog 32 #[.pointer (some ⟨b,0,none⟩)] w fun e w'=>e=.returned (.string ⟨#[]⟩)/\Below B w w':=by
 have hUS:∀W:World,(Builtin.unsafeString_ #[121,3] 9 #[.pointer none,.int .i64 0]).run Tryd.prog W=.ok (.string .empty) W:=fun W=>Lib.run_unsafeString_none W _ _ _ none;have c1:w.drew.cell? ⟨b,1,none⟩=some (.slice none 0 0):=by
  have:w.drew.heap[b]? =some (.cells #[.pointer none,.slice none 0 0,.bool false] 85 (0,0)):=hbk;rw[Lib.cell_of_heap this];rfl
 have hSD:(Builtin.unsafeSliceData_ #[81] 121 #[.slice none 0 0]).run Tryd.prog w.drew=.ok (.pointer none) w.drew:=rfl;clear hbk
 go_enter Tryd.func32,Tryd.ntmps32
 go_wp2
 go_region
 all_goals (go_wp2;go_ret;exact⟨rfl,Below.drew (Below.refl B w)⟩)
def qJH(l:List Dc):Prop:=∀d∈l,qG7 d=0/\DL 10000 d/\(qDs d 0).length<=1000000
theorem qFX{l:List Dc}{k:Nat}(hk:k<l.length):qA8 (l.take (k+1))=qA8 (l.take k)++qDs l[k] 0:=by
 rw[List.take_succ_eq_append_getElem hk,qFY]
theorem qHt(l:List Dc)(k:Nat):(qA8 (l.take k)).length<=(qA8 l).length:=by
 have:qA8 l=qA8 (l.take k)++qA8 (l.drop k):=by
  conv=>lhs;rw[<-List.take_append_drop k l]
  unfold qA8;rw[List.map_append,List.flatten_append]
 rw[this,List.length_append];omega
theorem qHz(v:Value)(l:List Dc)(w:World)(h:DsPar w v l)(hp:qJH l)(hl:l.length<=10000)(hK:qAY w)(hT:qBI w):
 Calls Tryd.prog 15 #[v] w fun e w'=>e=.returned (.tuple #[.string ⟨(qCE l).1.toArray⟩,.int .i64 (qCE l).2])/\Below w.heap.size w w':=by
 obtain⟨a,cap,rfl, -,-⟩:=TSl.form h;have hel:qIj l=0:=by
  have:∀l:List Dc,(∀d∈l,qG7 d=0)->qIj l=0:=by
   intro l
   induction l with
   |nil=>intro _;rfl
   |cons d l ih=>intro h;rw[qIj,if_pos (h d (by simp))];exact ih (fun x hx=>h x (by simp[hx]))
  exact this l (fun d hd=>(hp d hd).1)
 have HA:=hZ h;have HP:=hZ hp;have HK:=hZ hK;have HT:=hZ hT;have HE:=hZ hel;cases l with
 |nil=>
  have HR:Hid (qCE []=([],0)):=hZ rfl;rw[HR.o];clear h hp hK hT hel
  go_enter Tryd.func15,Tryd.ntmps15
  go_wp2_with fail
  go_loopw [10] (fun iv wr=>iv=.int .i64 0/\w=wr) (fun iv _=>0)
  case atStart=>exact⟨rfl,rfl⟩
  case round=>
   obtain⟨rfl,hw⟩:=hrel;subst hw;obtain⟨w1,hw1⟩:=eX (w.alloc (.cells #[.pointer none,.slice none 0 0,.bool false] 85));have hbk:w1.heap[w.heap.size]? =some (.cells #[.pointer none,.slice none 0 0,.bool false] 85 (0,0)):=by rw[<-hw1];exact heap_alloc_new w _
   have HB1:Hid (Below w.heap.size w w1):=hZ (by rw[<-hw1];exact qAa _ _);have HC:=hZ (qGG w.heap.size w.heap.size w1 hbk);clear hbk
   go_wp2_with fail
   go_loopw [25] (fun iv wr=>iv=.int .i64 0/\w1=wr) (fun iv _=>0)
   case atStart=>exact⟨rfl,rfl⟩
   case round=>
    obtain⟨rfl,hw⟩:=hrel;subst hw;clear hw1
    go_wp2_with fail
    refine HC.o.mono ?_;rintro e w2 ⟨rfl,hB2⟩;have HB2:=hZ (HB1.o.trans hB2);clear hB2 HC
    go_wp2_with fail
    refine bodyPost_ret (v:=.tuple #[.string ⟨#[]⟩,.int .i64 0]) (by simp[results,Tryd.results15,go_sem]) rfl ?_;exact⟨rfl,HB2.o⟩
 |cons d0 l0=>
  have hne:qA8 (d0::l0)≠[]:=by
   intro e;have:=congrArg List.length e;simp[qA8,qDs]at this
  obtain⟨l,hll⟩:=eX (d0::l0);rw[hll]at HA HP HE hl hne;rw[hll];have hnz:0<l.length:=by rw[<-hll];simp
  clear h hp hK hT hel hll;have HNe:=hZ hne;obtain⟨n,hn⟩:=eX l.length;rw[hn]at hl hnz;rw[hn];have Hn:=hZ hn;clear hn hne
  go_enter Tryd.func15,Tryd.ntmps15
  go_wp2_with fail
  go_loopw [10] (fun iv wr=>∃k:Nat,k<=n/\iv=.int .i64 k/\Hid (Below w.heap.size w wr)) (fun iv _=>n-(intOf iv).toNat)
  case atStart=>exact⟨0,by omega,rfl,hZ (Below.refl _ _)⟩
  case round=>
   obtain⟨k,hk,rfl,HB⟩:=hrel;by_cases hlt:k<n
   ·have h1:k<l.length:=by have:=Hn.o;omega
    obtain⟨g,o1,cp,cs,hv,hd0,hcl,hrow⟩:=qDd.nth (HA.o.kp (KpX.of_below (X:=[]) HB.o) (by simp) (by simp) (by simp) (by simp)) k h1;injection hv with hv hq1 hv2;subst hv hv2;obtain⟨hp1,hp2,-⟩:=HP.o _ (List.getElem_mem h1);obtain⟨d,hd⟩:=eX (l[k]);rw[hd]at hd0 hp1 hp2;obtain⟨y,hcs,hy⟩:=hd0;subst hcs;have HC:=hZ (qH4 d y wr g (o1+k*17) ⟨hrow,hy⟩ hp1 hp2 (HK.o.below HB.o HK.o.lt));have hm0:(0:Int)<=(k:Int):=by omega
    have hm1:(k:Int)<(n:Int):=by omega
    clear hrow hy hp1 hp2 hd hq1 hcl h1
    go_wp2_with fail
    refine HC.o.mono ?_;rintro e w2 ⟨rfl,hB2⟩;have HB2:=hZ (HB.o.trans (hB2.mono HB.o.size));clear hB2 HC
    go_wp2_with fail
    exact⟨⟨k+1,by omega,by go_num,HB2⟩,by simp[intOf];omega⟩
   ·have hm1:¬(k:Int)<(n:Int):=by omega
    obtain⟨B,hBe⟩:=eX wr.heap.size;obtain⟨w1,hw1⟩:=eX (wr.alloc (.cells #[.pointer none,.slice none 0 0,.bool false] 85));have hbk:w1.heap[B]? =some (.cells #[.pointer none,.slice none 0 0,.bool false] 85 (0,0)):=by rw[<-hw1,<-hBe];exact heap_alloc_new wr _
    have hB1:Below wr.heap.size wr w1:=by rw[<-hw1];exact qAa _ _
    have HB1:=hZ (HB.o.trans (hB1.mono HB.o.size));have HS1:Hid (PSt B w1 B (qA8 (l.take 0)) false):=hZ (.inl ⟨Nat.le_refl _,_,hbk,World.ownsRow_nil _ _ _ _⟩);have HZ:Hid (w.heap.size<=B/\B<=w1.heap.size):=hZ ⟨by rw[<-hBe];exact HB.o.size,by have:=qAD hbk;omega⟩;clear hbk hB1 HB
    go_wp2_with fail
    clear hw1 hBe
    go_loopw [25] (fun iv wr=>∃k:Nat,k<=n/\iv=.int .i64 k/\Hid (PSt B wr B (qA8 (l.take k)) false)/\Hid (PKp B w1 wr)/\Hid ((qA8 (l.take k)).length<=8192)) (fun iv _=>n-(intOf iv).toNat)
    case atStart=>exact⟨0,by omega,rfl,HS1,hZ (PKp.refl _ _),hZ (by simp[qA8])⟩
    case round=>
     clear HS1;obtain⟨k2,hk2,rfl,HS,HKp,HLt⟩:=hrel;have HBw:Hid (Below w.heap.size w wr):=hZ (HB1.o.trans (HKp.o.1.mono HZ.o.1));by_cases hlt2:k2<n
     ·have h1:k2<l.length:=by have:=Hn.o;omega
      have hAw:=HA.o.kp (KpX.of_below (X:=[]) HBw.o) (by simp) (by simp) (by simp) (by simp);obtain⟨g,o1,cp,cs,hv,hd0,hcl,hrow⟩:=qDd.nth hAw k2 h1;obtain⟨g',o1',cp',cs',hv',hd0', -,hrow'⟩:=qDd.nth HA.o k2 h1;injection hv with hv hq1 hv2;injection hv' with hv' hq2 hv2';subst hv hv2;injection hv' with hv';injection hv' with e1 e2;subst e1 e2;have hgl:g<B:=Nat.lt_of_lt_of_le (by
       obtain⟨y',hy',-⟩:=hd0';subst hy';exact World.block_lt_of_cell? w ⟨g,o1+k2*17+0,none⟩ (hrow' 0 _ rfl)) HZ.o.1
      obtain⟨hp1,hp2,hp3⟩:=HP.o _ (List.getElem_mem h1);have hT2:=qFX h1;obtain⟨d,hd⟩:=eX (l[k2]);rw[hd]at hd0 hp1 hp2 hp3 hT2;obtain⟨y,hcs,hy⟩:=hd0;subst hcs;have hTB:1<B:=Nat.lt_of_lt_of_le HT.o.lt HZ.o.1;have HC:=hZ (qF5 B B g (o1+k2*17) d y (qA8 (l.take k2)) wr ⟨HS.o,PKp.refl _ _,⟨hrow,hy⟩,HT.o.below HBw.o HT.o.lt,Nat.le_trans HZ.o.2 HKp.o.1.size⟩ hgl hTB hp1 hp2 hp3 (by have:=HLt.o;omega));have HT2:=hZ hT2;have hm2:(0:Int)<=(k2:Int):=by omega
      have hm3:(k2:Int)<(n:Int):=by omega
      clear hrow hrow' hy hp1 hp2 hp3 hd hd0' hq1 hq2 hv2' hcl hT2 hAw hgl hTB
      go_wp2_with fail
      refine HC.o.mono ?_;rintro e w2 ⟨rfl,hw⟩;rw[<-HT2.o]at hw;have HS2:=hZ hw.s;have HK2:=hZ (HKp.o.trans hw.k);have HL2:=hZ (qHB B B (qA8 (l.take (k2+1))) false w2 hw.s);clear hw HC HS HKp HLt HT2 HBw;obtain⟨tl,htl⟩:=eX ((qA8 (l.take (k2+1))).length);rw[htl]at HL2;have Htl:=hZ htl;clear htl
      go_wp2_with fail
      refine HL2.o.mono ?_;rintro e w3 ⟨rfl,hw3⟩;subst hw3;clear HL2;by_cases hbig:8192<tl
      ·have hb1:(8192:Int)<(tl:Int):=by omega
       have HR:Hid (qCE l=([],4)):=hZ (by
        unfold qCE;rw[if_pos HE.o,if_pos];have:=qHt l (k2+1);have:=Htl.o;omega)
       have HF:=hZ (HB1.o.trans (HK2.o.1.mono HZ.o.1))
       go_wp2_with fail
       refine bodyPost_ret (v:=.tuple #[.string ⟨#[]⟩,.int .i64 4]) (by simp[results,Tryd.results15,go_sem]) rfl ?_;exact⟨by rw[HR.o],HF.o⟩
      ·have hb1:¬(8192:Int)<(tl:Int):=by omega
       have HL3:Hid ((qA8 (l.take (k2+1))).length<=8192):=hZ (by have:=Htl.o;omega)
       go_wp2_with fail
       exact⟨⟨k2+1,by omega,by go_num,HS2,HK2,HL3⟩,by simp[intOf];omega⟩
     ·have hm3:¬(k2:Int)<(n:Int):=by omega
      have htk:l.take k2=l:=List.take_of_length_le (by have:=Hn.o;omega);have hS:=HS.o;have hLt:=HLt.o;rw[htk]at hS hLt;have HC:=hZ (qGH B B (qA8 l) false wr hS HNe.o);have HR:Hid (qCE l=(qA8 l,0)):=hZ (by
       unfold qCE;rw[if_pos HE.o,if_neg (by omega)])
      clear hS hLt htk HS HLt
      go_wp2_with fail
      refine HC.o.mono ?_;rintro e w2 ⟨rfl,hB2⟩;have HF:=hZ (HBw.o.trans (hB2.mono HZ.o.1));clear hB2 HC
      go_wp2_with fail
      refine bodyPost_ret (v:=.tuple #[.string ⟨(qA8 l).toArray⟩,.int .i64 0]) (by simp[results,Tryd.results15,go_sem]) rfl ?_;exact⟨by rw[HR.o],HF.o⟩
def lv1:Bs:=[114,117,108,101,32,115,109,101,108,116,32,116,105,109,101,32,53,32,116,97,107,101,32,50,32,111,114,101,44,32,49,32,99,111,97,108,32,103,105,118,101,32,49,32,105,114,111,110,59]
def lv2:Bs:=[105,116,101,109,32,97,32,119,101,97,114,32,51,32,119,101,97,114,32,52,59]
def lv3:Bs:=[108,111,111,116,32,108,32,51,58,50,32,120,44,49,32,121,43,32,55,32,58,32,59]
def lv4:Bs:=[108,111,111,116,32,108,32,51,58,32,50,32,120,44,32,49,32,121,32,43,32,55,58,59,10]
def onE(x:Except (Nat×Int) (List Dc))(f:List Dc->Bool)(g:Nat×Int->Bool):Bool:=match x with|.ok l=>f l|.error e=>g e
def qJG:List Dc->Bool
 |[d]=>d.kind==1 && d.time==5 && (match d.take with|[p,_]=>p.at_==25|_=>false)
 |_=>false
def qJF:List Dc->Bool
 |[d]=>qG7 d==0 && qDs d 0==lv4
 |_=>false
theorem qJv:onE (qAn lv1) qJG (fun _=>false)=true:=by decide +kernel
theorem qJu:onE (qAn lv2) (fun _=>false) (fun e=>e==(14,2))=true:=by decide +kernel
theorem qJt:onE (qAn lv3) qJF (fun _=>false)=true:=by decide +kernel
theorem qHS:∃d p q,qAn lv1=.ok [d]/\d.kind=1/\d.time=5/\d.take=[p,q]/\p.at_=25:=by
 have h:=qJv;unfold onE at h
 split at h
 ·next l e=>
  match l,h with
  |[d],h=>
   simp only[qJG,Bool.and_eq_true,beq_iff_eq]at h;obtain⟨⟨h1,h2⟩,h3⟩:=h;cases ht:d.take with
   |nil=>rw[ht]at h3;cases h3
   |cons p r=>
    cases r with
    |nil=>rw[ht]at h3;cases h3
    |cons q r=>
     cases r with
     |nil=>rw[ht]at h3;exact⟨d,p,q,e,h1,h2,ht,by simpa using h3⟩
     |cons _ _=>rw[ht]at h3;cases h3
 ·cases h
theorem qHR:qAn lv2=.error (14,2):=by
 have h:=qJu;unfold onE at h
 split at h
 ·cases h
 ·next e he=>rw[he];simpa using h
theorem qHQ:∃d,qAn lv3=.ok [d]/\qG7 d=0/\qDs d 0=lv4:=by
 have h:=qJt;unfold onE at h
 split at h
 ·next l e=>
  match l,h with
  |[d],h=>
   simp only[qJF,Bool.and_eq_true,beq_iff_eq]at h;exact⟨d,e,h.1,h.2⟩
 ·cases h
theorem qDd.below{e et dt:TypeId}{w w':World}{v:Value}{l:List Dc}(h:qDd e et dt w v l)(hb:Below w.heap.size w w'):qDd e et dt w' v l:=h.kp (KpX.of_below (X:=[]) hb) (by simp) (by simp) (by simp) (by simp)
theorem qDd.none{e et dt:TypeId}(w:World):qDd e et dt w (.slice none 0 0) []:=TSl.nil _ _ (by omega)
theorem qHf{s:Bs}{ds:List Dc}(h:qAn s=.ok ds):∀d∈ds,qJh d:=fun d hd=>(qEQ h d hd).mono (by omega)
theorem qB9(s:ByteArray)(w:World)(hs:s.size<=100000)(hK:qAY w):
 Calls Tryd.prog 10 #[.string s] w fun e w'=>e=.returned (.bool true)/\Below w.heap.size w w':=by
 have HC1:=hZ (qCH s w hs hK)
 go_enter Tryd.func10,Tryd.ntmps10
 go_wp2_with fail
 refine HC1.o.mono ?_;rintro e w1 ⟨hB1,⟨ds,v,hx,hl,rfl,hv⟩|⟨k,er,hx,rfl,her⟩⟩
 ·have HC2:=hZ (qDR s w1 hs)
  have HX:=hZ hx;have HV:=hZ hv;have HL:=hZ hl;have HB1:=hZ hB1;obtain⟨a,cp,rfl, -,-⟩:=TSl.form hv;clear hx hv hl hB1 HC1
  go_wp2_with fail
  refine HC2.o.mono ?_;rintro e w2 ⟨hB2,⟨ds',v',hx,hl,rfl,hv⟩|⟨k,er,hx,rfl,her⟩⟩;rotate_left
  ·rw[HX.o]at hx;cases hx
  obtain rfl:ds=ds':=by rw[HX.o]at hx;injection hx
  obtain⟨a',cp',rfl, -,-⟩:=TSl.form hv;have HV':=hZ hv;have HV2:=hZ (HV.o.below hB2);have HB2:=hZ (HB1.o.trans (hB2.mono HB1.o.size));have HC3:=hZ (qD5 _ ds w2 HV2.o (by have:=HL.o;omega) (qHf HX.o));clear hx hl hv hB2 HC2 HV HB1
  go_wp2_with fail
  refine HC3.o.mono ?_;rintro e w3 ⟨⟨u,rfl,hu⟩,hB3⟩;obtain⟨a3,cp3,rfl, -,-⟩:=TSl.form hu;have HB3:=hZ (HB2.o.trans (hB3.mono HB2.o.size));have HC4:=hZ (qFy true _ _ ds ds w3 hu (HV'.o.below hB3) rfl (fun j _ _=>smD.refl _ _) (by have:=HL.o;omega) (qHf HX.o));clear hu hB3 HC3 HB2 HV2 HV'
  go_wp2_with fail
  refine HC4.o.mono ?_;rintro e w4 ⟨rfl,hB4⟩;have HB4:=hZ (HB3.o.trans (hB4.mono HB3.o.size));clear hB4 HC4 HB3
  go_wp2_with fail
  go_ret;exact⟨rfl,HB4.o⟩
 ·have HC2:=hZ (qDR s w1 hs)
  have HX:=hZ hx;have HB1:=hZ hB1;clear hx hB1 HC1
  go_wp2_with fail
  refine HC2.o.mono ?_;rintro e w2 ⟨hB2,⟨ds',v',hx,hl,rfl,hv⟩|⟨k',er',hx,rfl,her'⟩⟩
  ·rw[HX.o]at hx;cases hx
  obtain⟨rfl,rfl⟩:k=k'/\er=er':=by
   rw[HX.o]at hx;injection hx with hx;injection hx with e1 e2;exact⟨e1,e2⟩
  have HB2:=hZ (HB1.o.trans (hB2.mono HB1.o.size));have HC3:=hZ (qD5 _ [] w2 (qDd.none w2) (by simp) nofun);clear hx hB2 HC2 HB1 her her'
  go_wp2_with fail
  refine HC3.o.mono ?_;rintro e w3 ⟨⟨u,rfl,hu⟩,hB3⟩;obtain⟨a3,cp3,rfl, -,-⟩:=TSl.form hu;have HB3:=hZ (HB2.o.trans (hB3.mono HB2.o.size));have HC4:=hZ (qFy true _ _ [] [] w3 hu (qDd.none w3) rfl (fun j _ _=>smD.refl _ _) (by simp) nofun);clear hu hB3 HC3 HB2
  go_wp2_with fail
  refine HC4.o.mono ?_;rintro e w4 ⟨rfl,hB4⟩;have HB4:=hZ (HB3.o.trans (hB4.mono HB3.o.size));clear hB4 HC4 HB3
  go_wp2_with fail
  go_ret;exact⟨rfl,HB4.o⟩
theorem qGT(w:World)(hK:qAY w)(hT:qBI w):
 Calls Tryd.prog 11 #[] w fun e w'=>e=.returned (.bool true)/\Below w.heap.size w w':=by
 obtain⟨d1,p1,q1,hx1,hk1,ht1,hl1,ha1⟩:=qHS;obtain⟨d3,hx3,he3,hl3⟩:=qHQ;have HX1:Hid (qAn (⟨#[114,117,108,101,32,115,109,101,108,116,32,116,105,109,101,32,53,32,116,97,107,101,32,50,32,111,114,101,44,32,49,32,99,111,97,108,32,103,105,118,101,32,49,32,105,114,111,110,59]⟩:ByteArray).data.toList=.ok [d1]):=hZ hx1;have HX2:Hid (qAn (⟨#[105,116,101,109,32,97,32,119,101,97,114,32,51,32,119,101,97,114,32,52,59]⟩:ByteArray).data.toList=.error (14,2)):=hZ qHR;have HX3:Hid (qAn (⟨#[108,111,111,116,32,108,32,51,58,50,32,120,44,49,32,121,43,32,55,32,58,32,59]⟩:ByteArray).data.toList=.ok [d3]):=hZ hx3;have HD3:Hid (qJH [d3]):=hZ (fun d hd=>by
  rw[List.mem_singleton.1 hd];refine⟨he3,(qEQ hx3 d3 (by simp)).mono (by omega),?_⟩;rw[hl3];decide)
 have HP3:Hid (qCE [d3]=(lv4,0)):=hZ (by
  have ht:qA8 [d3]=lv4:=by simp[qA8,hl3]
  have he:qIj [d3]=0:=by rw[qIj,if_pos he3];rfl
  unfold qCE;rw[if_pos he,ht,if_neg (by decide)])
 have HF1:Hid (d1.kind=1/\d1.time=5/\d1.take=[p1,q1]/\p1.at_=25):=hZ ⟨hk1,ht1,hl1,ha1⟩;have HK:=hZ hK;have HT:=hZ hT;have HC1:=hZ (qCH ⟨#[114,117,108,101,32,115,109,101,108,116,32,116,105,109,101,32,53,32,116,97,107,101,32,50,32,111,114,101,44,32,49,32,99,111,97,108,32,103,105,118,101,32,49,32,105,114,111,110,59]⟩ w (by decide) hK);clear hx1 hk1 ht1 hl1 ha1 hx3 he3 hl3 hK hT
 go_enter Tryd.func11,Tryd.ntmps11
 go_wp2_with fail
 refine HC1.o.mono ?_;rintro e w1 ⟨hB1,⟨ds,v,hx,hl,rfl,hv⟩|⟨k,er,hx,rfl,her⟩⟩;rotate_left
 ·rw[HX1.o]at hx;cases hx
 obtain rfl:[d1]=ds:=by rw[HX1.o]at hx;injection hx
 have HV1:=hZ hv;have HB1:=hZ hB1;obtain⟨g,o,cp,cs,rfl,hd0,hcl,hrow⟩:=qDd.nth hv 0 (by simp);have HD0:=hZ hd0;have HRow:=hZ hrow;simp only[List.length_cons,List.length_nil,Nat.zero_add];have HC2:=hZ (qCH ⟨#[105,116,101,109,32,97,32,119,101,97,114,32,51,32,119,101,97,114,32,52,59]⟩ w1 (by decide) (HK.o.below HB1.o HK.o.lt));clear hx hl hv hB1 hd0 hcl hrow HC1
 go_wp2_with fail
 refine HC2.o.mono ?_;rintro e w2 ⟨hB2,⟨ds,v,hx,hl,rfl,hv⟩|⟨k,er,hx,rfl,her⟩⟩
 ·rw[HX2.o]at hx;cases hx
 obtain⟨rfl,rfl⟩:14=k/\2=er:=by
  rw[HX2.o]at hx;injection hx with hx;injection hx with e1 e2;exact⟨e1,e2⟩
 have HB2:=hZ (HB1.o.trans (hB2.mono HB1.o.size));have HE2:=hZ hB2;have HC3:=hZ (qCH ⟨#[108,111,111,116,32,108,32,51,58,50,32,120,44,49,32,121,43,32,55,32,58,32,59]⟩ w2 (by decide) (HK.o.below HB2.o HK.o.lt));clear hx hB2 HC2 her
 go_wp2_with fail
 refine HC3.o.mono ?_;rintro e w3 ⟨hB3,⟨ds,v,hx,hl,rfl,hv⟩|⟨k,er,hx,rfl,her⟩⟩;rotate_left
 ·rw[HX3.o]at hx;cases hx
 obtain rfl:[d3]=ds:=by rw[HX3.o]at hx;injection hx
 have HB3:=hZ (HB2.o.trans (hB3.mono HB2.o.size));have HE3:=hZ (HE2.o.trans (hB3.mono HE2.o.size));have HC4:=hZ (qHz v [d3] w3 hv HD3.o (by simp) (HK.o.below HB3.o HK.o.lt) (HT.o.below HB3.o HT.o.lt));rw[HP3.o]at HC4;unfold lv4 at HC4;obtain⟨a3,c3,rfl, -,-⟩:=TSl.form hv;simp only[List.length_cons,List.length_nil,Nat.zero_add]at HC4 ⊢;clear hx hl hv hB3 HC3
 go_wp2_with fail
 refine HC4.o.mono ?_;rintro e w4 ⟨rfl,hB4⟩;have HB4:=hZ (HB3.o.trans (hB4.mono HB3.o.size));have hE4:=HE3.o.trans (hB4.mono HE3.o.size);have hgl:g<w1.heap.size:=by
  obtain⟨y,hy,-⟩:=HD0.o;have hr:=HRow.o;rw[hy]at hr;exact World.block_lt_of_cell? w1 ⟨g,o+0*17+0,none⟩ (hr 0 _ rfl)
 obtain⟨y,hy,hls⟩:=HD0.o;have hr:qEw w1 g (o+0*17) (dcC d1 y):=by have:=HRow.o;rw[hy]at this;exact this
 have hr4:∀j u,(dcC d1 y)[j]? =some u->w4.cell? ⟨g,o+j,none⟩=some u:=fun j u hj=>(hE4.cell (p:=⟨g,o+j,none⟩) hgl).trans (by have:=hr j u hj;simpa using this);have hls4:=hls.kp (KpX.of_below (X:=[]) hE4) (by simp) (by simp) (by simp);obtain⟨t1,t2,hyt, -,-⟩:=TSl.form hls4.t;have c0:w4.cell? ⟨g,o,none⟩=some (.int .i64 1):=by have:=hr4 0 _ rfl;rw[<-HF1.o.1];exact this
 have c9:w4.cell? ⟨g,o+9,none⟩=some (.int .i64 5):=by have:=hr4 9 _ rfl;rw[<-HF1.o.2.1];exact this
 have htl:d1.take.length=2:=by rw[HF1.o.2.2.1];rfl
 have hT4:qAF 68 w4 y.t d1.take:=hls4.t;rw[HF1.o.2.2.1]at hT4;obtain⟨gp,op,cpp,hyt2,z0,z1,z2a⟩:=qAF.nth hT4 0 (by simp);have c12:w4.cell? ⟨g,o+12,none⟩=some (.slice (some ⟨gp,op,none⟩) 2 cpp):=by have:=hr4 12 _ rfl;rw[this,hyt2];rfl
 have z2:w4.cell? ⟨gp,op+2,none⟩=some (.int .i64 25):=by have:=z2a;simp only[Nat.zero_mul,Nat.add_zero]at this;rw[<-HF1.o.2.2.2];exact this
 have HF:=hZ HB4.o;clear hB4 hE4 hgl hy hls hr hr4 hls4 hyt htl hT4 hyt2 z0 z1 z2a HD0 HRow HB4 HC4 HE3 HE2 HV1
 go_wp2_with fail
 go_ret;exact⟨rfl,HF.o⟩
theorem qB5(a b:ByteArray):(a++b).size=a.size+b.size:=ByteArray.size_append
theorem qEf(s:ByteArray)(w:World)(hs:s.size<=9223372036854775807)(hK:qAY w)(hP:qBI w):
 Calls Tryd.prog 3 #[.string s] w fun e w'=>e=.returned (.bool true)/\Below w.heap.size w w':=by
 have HK:=hZ hK;have HP:=hZ hP;have HC0:=hZ (qGr s 60 w hs (by omega));obtain⟨x,hx⟩:=eX (s.extract 0 60);have hxl:x.size<=60:=by rw[<-hx,ByteArray.size_extract];omega
 have HX:=hZ hxl;rw[hx]at HC0;have n0:¬9223372036854775807<7+x.size:=by omega
 have n1:¬9223372036854775807<7+x.size+1:=by omega
 have n2:¬9223372036854775807<12+x.size:=by omega
 have n3:¬9223372036854775807<12+x.size+1:=by omega
 have n4:¬9223372036854775807<9+x.size:=by omega
 have n5:¬9223372036854775807<9+x.size+8:=by omega
 have n6:¬9223372036854775807<9+x.size+8+x.size:=by omega
 have n7:¬9223372036854775807<9+x.size+8+x.size+1:=by omega
 clear hx hxl hK hP
 go_enter Tryd.func3,Tryd.ntmps3
 go_wp2_with fail
 refine HC0.o.mono ?_;rintro e w0 ⟨rfl,hw0⟩;subst hw0;have HC1:=hZ (qB9 x w (by have:=HX.o;omega) HK.o);clear HC0
 go_wp2_with fail
 refine HC1.o.mono ?_;rintro e w1 ⟨rfl,hB1⟩;have HB1:=hZ hB1;clear hB1 HC1
 go_wp2_with fail
 refine(qB9 _ w1 (by have:=HX.o;rw[qB5,qB5];show 7+x.size+1<=_;omega) (HK.o.below HB1.o HK.o.lt)).mono ?_;rintro e w2 ⟨rfl,hB2⟩;have HB2:=hZ (HB1.o.trans (hB2.mono HB1.o.size));clear hB2 HB1
 go_wp2_with fail
 refine(qB9 _ w2 (by have:=HX.o;rw[qB5,qB5];show 12+x.size+1<=_;omega) (HK.o.below HB2.o HK.o.lt)).mono ?_;rintro e w3 ⟨rfl,hB3⟩;have HB3:=hZ (HB2.o.trans (hB3.mono HB2.o.size));clear hB3 HB2
 go_wp2_with fail
 refine(qB9 _ w3 (by have:=HX.o;rw[qB5,qB5,qB5,qB5];show 9+x.size+8+x.size+1<=_;omega) (HK.o.below HB3.o HK.o.lt)).mono ?_;rintro e w4 ⟨rfl,hB4⟩;have HB4:=hZ (HB3.o.trans (hB4.mono HB3.o.size));clear hB4 HB3
 go_wp2_with fail
 refine(qGT w4 (HK.o.below HB4.o HK.o.lt) (HP.o.below HB4.o HP.o.lt)).mono ?_;rintro e w5 ⟨rfl,hB5⟩;have HB5:=hZ (HB4.o.trans (hB5.mono HB4.o.size));clear hB5 HB4
 go_wp2_with fail
 go_ret;exact⟨rfl,HB5.o⟩
end Go.Proofs.YtpmnbcdjoomgcaaDoor
