/- The law ParserRound: its walk. -/
import Derived.Test.YtpmnbcdjoomgcaaDoorQUPGe1
import Derived.Test.YtpmnbcdjoomgcaaDoorQUPTx7
set_option linter.unusedVariables false
set_option linter.unusedSimpArgs false
set_option maxHeartbeats 4000000
set_option maxRecDepth 100000
namespace Go.Proofs.YtpmnbcdjoomgcaaDoor
open Go.RowKit
theorem qEz(v:Value)(zs:List Int)(len:Nat)(w:World)(hl:qAG w v zs len)(hK:qAT w)(hP:qBC w):
 Calls Tryd.prog 5 #[v] w fun e w'=>e=.returned (.bool true)/\Below w.heap.size w w':=by
 obtain⟨hGl,hGd⟩:=qEh (qAy zs len);have hTG:=qGd (fun i=>qBE zs len i 6) (qBK (pkN zs len)) 0 hGd;have hTL:=qEJ (fun i=>qBE zs len i 6) (qBK (pkN zs len)) 0;have hTS:=qHu (fun i=>qBE zs len i 6) (qBK (pkN zs len)) 0;obtain⟨ds2,hp2,hs2⟩:=qCP (txT zs len) hTG (by unfold txT;omega);have hs2:ds2.map Dc.st=(qBK (pkN zs len)).map Dc.st:=hs2.trans hTS;have htl:=qBw (txT zs len) hTG;have hx2:(txT zs len).length<=5:=by unfold txT;omega
 obtain⟨T,hT⟩:=eX (qAK (txT zs len));have HC0:=hZ (qDN v zs len w hl);have HT0:=hZ (fun w h=>qEr v zs len w h);rw[hT]at hp2 htl HT0;have htz:(⟨T.toArray⟩:ByteArray).size<=100000:=by show T.length<=_;omega
 have HTz:=hZ htz;obtain⟨L,hL⟩:=eX (qBK (pkN zs len));rw[hL]at HC0 hGl hGd hs2;obtain⟨ds1,hp1,hs1⟩:=qCP (L.map fun d=>(d,0)) (fun x hx=>by obtain⟨d,hd,rfl⟩:=List.mem_map.1 hx;exact hGd d hd) (by simp;omega);rw[<-qEn]at hp1;have hs1:ds1.map Dc.st=L.map Dc.st:=by rw[hs1,List.map_map];rfl
 have hsl:=qHp hGd;have hd1:=qB7 hp1;have hd2:=qB7 hp2;have HD1:=hZ hd1;have HD2:=hZ hd2;have HDL:Hid (∀d∈L,DL 8192 d):=hZ (fun d hd=>(hGd d hd).dl);have HPr:=hZ (fun(v:Value) (m:List Dc) (w:World) (h:DsPar w v m) (he:m.map Dc.st=L.map Dc.st) (hD:∀d∈m,DL 8192 d)=>qH3 v L m w h hGd he (by omega) hD);obtain⟨S,hS⟩:=eX ((⟨(qAQ L).toArray⟩:ByteArray));have hp1:qAj S.data.toList=.ok ds1:=by rw[<-hS];exact hp1
 have hsz:S.size<=100000:=by rw[<-hS];show(qAQ L).length<=_;omega
 rw[hS]at HPr;have HPa:=hZ (fun(w:World)=>qBq S ds1 w hsz hp1);have HPt:=hZ (fun(w:World)=>qBq ⟨T.toArray⟩ ds2 w HTz.o hp2);have HS1:=hZ hs1;have HS2:=hZ hs2;have HL:Hid (L.length<=100000):=hZ (by omega);have HI:=hZ hl;have HK:=hZ hK;have HP:=hZ hP;obtain⟨n,hn⟩:=eX L.length;have hn1:ds1.length=n:=by rw[<-hn];exact qEo hs1
 have hn2:ds2.length=n:=by rw[<-hn];exact qEo hs2
 have Hn:Hid (L.length=n/\ds1.length=n/\ds2.length=n):=hZ ⟨hn,hn1,hn2⟩;clear hl hK hP hGl hGd hTG hTL hTS hp2 hs2 htl hx2 hT htz hL hp1 hs1 hsl hd1 hd2 hS hsz hn hn1 hn2
 go_enter Tryd.func5,Tryd.ntmps5
 go_wp2_with fail
 refine(HC0.o).mono ?_;rintro e w1 ⟨⟨u1,rfl,hv⟩,hB⟩;have HB1:=hZ hB;replace HI:=hZ (qAZ HI.o hB);have HU1:=hZ hv;clear hB hv;obtain⟨a1,c1,rfl, -,-⟩:=TSl.form HU1.o;rw[Hn.o.1]at HU1 ⊢
 go_wp2_with fail
 refine(qJK _ L w1 HU1.o (by have:=HL.o;omega) (fun d hd=>(HDL.o d hd).mono (by omega))).mono ?_;rintro e w2 ⟨⟨u2,rfl,hv⟩,hB⟩;have HB2:=hZ (HB1.o.trans (hB.mono HB1.o.size));replace HI:=hZ (qAZ HI.o hB);replace HU1:=hZ (HU1.o.below hB);have HU2:=hZ hv;clear hB HB1 hv;obtain⟨a2,c2,rfl, -,-⟩:=TSl.form HU2.o;rw[Hn.o.1]at HU2 ⊢
 go_wp2_with fail
 refine(HPr.o _ L w2 HU2.o rfl HDL.o (HK.o.below HB2.o HK.o.lt) (HP.o.below HB2.o HP.o.lt)).mono ?_;rintro e w3 ⟨rfl,hB⟩;have HB3:=hZ (HB2.o.trans (hB.mono HB2.o.size));replace HI:=hZ (qAZ HI.o hB);replace HU1:=hZ (HU1.o.below hB);clear hB HU2 HB2
 go_wp2_with fail
 refine(HPa.o w3 (HK.o.below HB3.o HK.o.lt)).mono ?_;rintro e w4 ⟨⟨a4,c4,rfl,hv,-⟩,hB⟩;have HB4:=hZ (HB3.o.trans (hB.mono HB3.o.size));replace HI:=hZ (qAZ HI.o hB);replace HU1:=hZ (HU1.o.below hB);have HV4:=hZ hv;clear hB HB3 hv;rw[Hn.o.2.1]at HV4 ⊢
 go_wp2_with fail
 refine(HPr.o _ ds1 w4 HV4.o HS1.o HD1.o (HK.o.below HB4.o HK.o.lt) (HP.o.below HB4.o HP.o.lt)).mono ?_;rintro e w5 ⟨rfl,hB⟩;have HB5:=hZ (HB4.o.trans (hB.mono HB4.o.size));replace HI:=hZ (qAZ HI.o hB);replace HU1:=hZ (HU1.o.below hB);replace HV4:=hZ (HV4.o.below hB);clear hB HB4
 go_wp2_with fail
 refine(HT0.o w5 HI.o).mono ?_;rintro e w6 ⟨rfl,hB⟩;have HB6:=hZ (HB5.o.trans (hB.mono HB5.o.size));replace HU1:=hZ (HU1.o.below hB);replace HV4:=hZ (HV4.o.below hB);clear hB HI HB5
 go_wp2_with fail
 refine(HPt.o w6 (HK.o.below HB6.o HK.o.lt)).mono ?_;rintro e w7 ⟨⟨a7,c7,rfl,hv,-⟩,hB⟩;have HB7:=hZ (HB6.o.trans (hB.mono HB6.o.size));replace HU1:=hZ (HU1.o.below hB);replace HV4:=hZ (HV4.o.below hB);have HV7:=hZ hv;clear hB HB6 hv;rw[Hn.o.2.2]at HV7 ⊢
 go_wp2_with fail
 refine(HPr.o _ ds2 w7 HV7.o HS2.o HD2.o (HK.o.below HB7.o HK.o.lt) (HP.o.below HB7.o HP.o.lt)).mono ?_;rintro e w8 ⟨rfl,hB⟩;have HB8:=hZ (HB7.o.trans (hB.mono HB7.o.size));replace HU1:=hZ (HU1.o.below hB);replace HV4:=hZ (HV4.o.below hB);replace HV7:=hZ (HV7.o.below hB);clear hB HB7
 go_wp2_with fail
 refine(HPa.o w8 (HK.o.below HB8.o HK.o.lt)).mono ?_;rintro e w9 ⟨⟨a9,c9,rfl,hv,-⟩,hB⟩;have HB9:=hZ (HB8.o.trans (hB.mono HB8.o.size));replace HU1:=hZ (HU1.o.below hB);replace HV4:=hZ (HV4.o.below hB);replace HV7:=hZ (HV7.o.below hB);have HV9:=hZ hv;clear hB HB8 hv;rw[Hn.o.2.1]at HV9 ⊢
 go_wp2_with fail
 refine(qBt _ ds1 w9 HV4.o (by have:=Hn.o;have:=HL.o;omega) HD1.o).mono ?_;rintro e w10 ⟨⟨a10,c10,rfl,hv⟩,hB⟩;have HB10:=hZ (HB9.o.trans (hB.mono HB9.o.size));replace HU1:=hZ (HU1.o.below hB);replace HV7:=hZ (HV7.o.below hB);replace HV9:=hZ (HV9.o.below hB);have HX:=hZ hv;clear hB HV4 HB9 hv;rw[Hn.o.2.1]at HX ⊢
 go_wp2_with fail
 refine(qDl _ _ ds1 L w10 HX.o HU1.o HS1.o (by have:=Hn.o;have:=HL.o;omega) HD1.o).mono ?_;rintro e w11 ⟨rfl,hB⟩;have HB11:=hZ (HB10.o.trans (hB.mono HB10.o.size));replace HV7:=hZ (HV7.o.below hB);replace HV9:=hZ (HV9.o.below hB);clear hB HU1 HX HB10
 go_wp2_with fail
 refine(qBt _ ds1 w11 HV9.o (by have:=Hn.o;have:=HL.o;omega) HD1.o).mono ?_;rintro e w12 ⟨⟨a12,c12,rfl,hv⟩,hB⟩;have HB12:=hZ (HB11.o.trans (hB.mono HB11.o.size));replace HV7:=hZ (HV7.o.below hB);have HZ:=hZ hv;clear hB HV9 HB11 hv;rw[Hn.o.2.1]at HZ ⊢
 go_wp2_with fail
 refine(qBt _ ds2 w12 HV7.o (by have:=Hn.o;have:=HL.o;omega) HD2.o).mono ?_;rintro e w13 ⟨⟨a13,c13,rfl,hv⟩,hB⟩;have HB13:=hZ (HB12.o.trans (hB.mono HB12.o.size));replace HZ:=hZ (HZ.o.below hB);have HY:=hZ hv;clear hB HV7 HB12 hv;rw[Hn.o.2.2]at HY ⊢
 go_wp2_with fail
 refine(qDl _ _ ds1 ds2 w13 HZ.o HY.o (HS1.o.trans HS2.o.symm) (by have:=Hn.o;have:=HL.o;omega) HD1.o).mono ?_;rintro e w14 ⟨rfl,hB⟩;have HB14:=hZ (HB13.o.trans (hB.mono HB13.o.size));clear hB HZ HY HB13
 go_wp2_with fail
 refine(qCz w14 (HK.o.below HB14.o HK.o.lt) (HP.o.below HB14.o HP.o.lt)).mono ?_;rintro e w15 ⟨rfl,hB⟩;have HB15:=hZ (HB14.o.trans (hB.mono HB14.o.size));clear hB HB14
 go_wp2_with fail
 go_ret;exact⟨rfl,HB15.o⟩
end Go.Proofs.YtpmnbcdjoomgcaaDoor
