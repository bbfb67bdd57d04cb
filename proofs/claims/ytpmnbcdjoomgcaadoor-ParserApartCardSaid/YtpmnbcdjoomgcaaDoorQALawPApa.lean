/- The law ParserApart: its walk. -/
import Derived.Test.YtpmnbcdjoomgcaaDoorQAPApp
import Derived.Test.YtpmnbcdjoomgcaaDoorQAGSeq
import Derived.Test.YtpmnbcdjoomgcaaDoorQAPTx7
set_option linter.unusedVariables false
set_option linter.unusedSimpArgs false
set_option maxHeartbeats 4000000
set_option maxRecDepth 100000
namespace Go.Proofs.YtpmnbcdjoomgcaaDoor

theorem qEK:∀(f:Nat) (l:List Tok) (ds:List Dc),qEo f l=.ok ds->∀d∈ds,∃u∈l,d.name=u.text/\d.at_=u.at_
 |0,l,ds,h=>by cases h
 |f+1,[],ds,h=>by rw[qEo]at h;cases h;nofun
 |f+1,a::l,ds,h=>by
  rw[qEo]at h;cases hd:qBl (a::l)with
  |error z=>rw[hd]at h;cases h
  |ok x=>
   obtain⟨d,r⟩:=x;rw[hd]at h;simp only[]at h;obtain⟨pre,t,e1, -, -, -,e5⟩:=qGP hd;cases hr:qEo f r with
   |error z=>rw[hr]at h;cases h
   |ok es=>
    rw[hr]at h;simp only[]at h;cases h;intro d' hd';rcases List.mem_cons.1 hd' with rfl|hd'
    ·exact e5
    ·obtain⟨u,hu,q⟩:=qEK f r es hr d' hd'
     exact⟨u,by rw[e1];simp[hu],q⟩
theorem qKJ(N:Nat):∀(n:Nat) (l:Bs) (ts:List Tok),l.length<=n->l.length<=N->lx N l=.ok ts->∀t∈ts,N-l.length<=t.at_/\t.at_+t.text.length<=N/\(l.drop (t.at_-(N-l.length))).take t.text.length=t.text
 |n,l,ts,hn,hN,h=>by
  rw[qEf]at h;cases hs:sk false l with
  |nil=>rw[hs]at h;simp only[]at h;cases h;nofun
  |cons c r=>
   rw[hs]at h;simp only[]at h;have hle:(c::r).length<=l.length:=by rw[<-hs];exact qDW _ _
   have hpos:0<(c::r).length:=by simp
   have hdr:l.drop (l.length-(c::r).length)=c::r:=by
    have:=qHS false l
    rwa [hs]at this
   cases hx:nx (N-(c::r).length) (c::r)with
   |error e'=>rw[hx]at h;cases h
   |ok t=>
    rw[hx]at h;simp only[]at h;obtain⟨h0,htx,hat⟩:=qGk hx;have htl:=qI3 (c::r);have htlen:t.text.length=tl (c::r):=by rw[htx,List.length_take];omega
    obtain⟨p2,hp2⟩:∃p2,(c::r).drop (tl (c::r))=p2:=⟨_,rfl⟩;have hl2:p2.length=(c::r).length-tl (c::r):=by rw[<-hp2,List.length_drop]
    rw[hp2]at h;cases hy:lx N p2 with
    |error x=>rw[hy]at h;cases h
    |ok us=>
     rw[hy]at h;simp only[]at h;cases h;obtain⟨m,rfl⟩:∃m,n=m+1:=⟨n-1,by omega⟩;intro u hu;rcases List.mem_cons.1 hu with rfl|hu
     ·refine⟨by omega,by omega,?_⟩
      rw[hat,show N-(c::r).length-(N-l.length)=l.length-(c::r).length by omega,hdr,htlen,<-htx]
     ·obtain⟨q1,q2,e⟩:=qKJ N m p2 us (by omega) (by omega) hy u hu
      refine⟨by omega,q2,?_⟩;have e2:p2=l.drop (l.length-p2.length):=by
       have e3:p2=(l.drop (l.length-(c::r).length)).drop (tl (c::r)):=by rw[hdr,hp2]
       rw[List.drop_drop]at e3
       rwa [show l.length-(c::r).length+tl (c::r)=l.length-p2.length by omega]at e3
      rw[e2,List.drop_drop]at e;rw[<-e2]at e
      rwa [show l.length-p2.length+(u.at_-(N-p2.length))=u.at_-(N-l.length) by omega]at e
theorem qGh{s:Bs}{ds:List Dc}(h:qAt s=.ok ds):∀d∈ds,∃n:Nat,d.at_=n/\n+d.name.length<=s.length/\(s.drop n).take d.name.length=d.name:=by
 unfold qAt at h;by_cases hs:8192<s.length
 ·rw[if_pos hs]at h;cases h
 ·rw[if_neg hs]at h
  cases hl:lx s.length s with
  |error x=>rw[hl]at h;cases h
  |ok ts=>
   rw[hl]at h;simp only[qDy]at h;cases ha:qEo (ts.length+1) ts with
   |error z=>rw[ha]at h;cases h
   |ok es=>
    rw[ha]at h;simp only[]at h;cases h;intro d hd;obtain⟨u,hu,e1,e2⟩:=qEK _ _ _ ha d hd;obtain⟨-,q2,q3⟩:=qKJ s.length s.length s ts (Nat.le_refl _) (Nat.le_refl _) hl u hu;rw[Nat.sub_self,Nat.sub_zero]at q3;exact⟨u.at_,e2,by rw[e1];exact q2,by rw[e1];exact q3⟩
theorem qIb(l:List (Dc×Nat))(h:∀x∈l,qFk x.1=0){s:Bs}{ts:List Tok}(hs:s.length<=8192)(hl:lx s.length s=.ok ts)(hk:ts.map Tok.key=(l.flatMap (fun x=>pcD x.1 x.2)).map Pc.key):
 ∃ds,qAt s=.ok ds/\ds.map Dc.st=l.map (fun x=>x.1.st):=by
 obtain⟨ds,e1,e2⟩:=qD9 l (ts.length+1) ts (fun x hx=>(qBE (h x hx)).1) (by omega) ⟨ts,by simp,hk⟩;refine⟨ds,?_,e2⟩;unfold qAt;rw[if_neg (by omega),hl];simp only[qDy,e1]
theorem qIc(a b:List (Dc×Nat))(ha:∀x∈a,qFk x.1=0)(hb:∀x∈b,qFk x.1=0)(hl:(qAZ a++10::qAZ b).length<=8192):∃ds,qAt (qAZ a++10::qAZ b)=.ok ds/\ds.map Dc.st=(a++b).map (fun x=>x.1.st):=by
 obtain⟨N,hN⟩:∃N,(qAZ a++10::qAZ b).length=N:=⟨_,rfl⟩;obtain⟨ts,h1,h2⟩:=qFc N (10::qAZ b) a ha;obtain⟨us,h3,h4⟩:=qFc N [] b hb;rw[List.append_nil]at h3;rw[qKI,h3,show lx N []=.ok [] by rw[qEf];rfl]at h1;refine qIb (a++b) (fun x hx=>(List.mem_append.1 hx).elim (ha x) (hb x)) (ts:=ts++us) hl (by rw[hN,h1];simp[qIa]) ?_;rw[List.map_append,h2,h4,List.flatMap_append,List.map_append]
open Go.RowKit
theorem qFX(v:Value)(l:List Dc)(w:World)(h:DsPar w v l)(hl:l.length<=100000)(hD:∀d∈l,DL 8192 d):
 Calls Tryd.prog 21 #[v] w fun e w'=>(∃a c,e=.returned (.slice a l.length c)/\qKx w' w.heap.size (.slice a l.length c) l)/\Below w.heap.size w w':=by
 refine(qES v l w h (by omega) (fun d hd=>(hD d hd).mono (by omega))).mono ?_;rintro e w1 ⟨⟨u,rfl,hu,ho⟩,hB⟩;obtain⟨a,c,rfl, -,-⟩:=TSl.form hu;exact⟨⟨a,c,rfl,ho⟩,hB⟩
theorem qKx.ones{w:World}{l:List Dc}{css:List (List Value)}(h1:css.length=l.length)(h2:∀j (h:j<l.length) (h':j<css.length),qF4 74 30 w css[j] l[j]):(∀u∈css.flatten,u.oneCell'=true)/\∀cs∈css,cs.length=17:=by
 have h:∀cs∈css,(∀u∈cs,u.oneCell'=true)/\cs.length=17:=fun cs hc=>by
  obtain⟨j,hj,rfl⟩:=List.mem_iff_getElem.1 hc;obtain⟨y,hy,hl⟩:=h2 j (by rw[<-h1];exact hj) hj;rw[hy];exact⟨qJH hl,rfl⟩
 refine⟨fun u hu=> ?_,fun cs hc=>(h cs hc).2⟩;obtain⟨cs,hc,hu⟩:=List.mem_flatten.1 hu;exact(h cs hc).1 u hu
theorem qKe{w w':World}{B:Nat}{va v':Value}{l m:List Dc}{css dss:List (List Value)}(h1:css.length=l.length)(h2:∀j (h:j<l.length) (h':j<css.length),qF4 74 30 w css[j] l[j])
 (h3:dss.length=m.length)(h4:∀j (h:j<m.length) (h':j<dss.length),qF4 74 30 w dss[j] m[j])
 (ho:w.ownsRow B 34 17 va l.length css.flatten)(ho':w'.ownsRow B 34 17 v' (l.length+m.length) (css.flatten++dss.flatten))(hw:qAg (fun b=>va.ownBlock=some b) w w'):DsRef w' v' (l++m):=by
 have hk:=KpX.own (X:=[34]) ho hw (by simp);refine TSl.of_own (css:=css++dss) (base:=B) (n:=(l++m).length) (by rw[List.flatten_append,List.length_append];exact ho') rfl (fun cs hc=> ?_) (by rw[List.length_append,List.length_append,h1,h3]) (fun j a b=> ?_)
 ·rcases List.mem_append.1 hc with hc|hc
  ·exact(qKx.ones h1 h2).2 cs hc
  ·exact(qKx.ones h3 h4).2 cs hc
 ·by_cases hx:j<l.length
  ·rw[List.getElem_append_left hx,List.getElem_append_left (by omega)]
   exact(h2 j hx (by omega)).kp hk (by decide) (by decide) (by decide)
  ·rw[List.getElem_append_right (by omega),List.getElem_append_right (by omega)]
   have:=h4 (j-l.length) (by rw[List.length_append]at a;omega) (by rw[List.length_append]at b;omega);simp only[h1];exact this.kp hk (by decide) (by decide) (by decide)
theorem qKV(s:ByteArray)(i n:Nat)(b:Bs)(h:(s.data.toList.drop i).take n=b):s.extract i (i+n)=⟨b.toArray⟩:=by
 apply ByteArray.ext;rw[ByteArray.data_extract];apply Array.toList_inj.1;rw[Array.toList_extract,<-h];simp[List.extract]
theorem qK6{a b c:List Dc}{x y:List (Dc×Nat)}(h:c.map Dc.st=(x++y).map (fun x=>x.1.st))(ha:a.map Dc.st=x.map (fun x=>x.1.st))(hb:b.map Dc.st=y.map (fun x=>x.1.st)):c.map Dc.st=(a++b).map Dc.st:=by
 rw[h,List.map_append,List.map_append,ha,hb]
theorem qD6(v:Value)(zs:List Int)(len:Nat)(v2:Value)(zs2:List Int)(len2:Nat)(w:World)(hl:qA3 w v zs len)(hl2:qA3 w v2 zs2 len2)(hK:qA2 w)(hP:qB7 w):
 Calls Tryd.prog 7 #[v,v2] w fun e w'=>e=.returned (.bool true)/\Below w.heap.size w w':=by
 obtain⟨hGl,hGd⟩:=qFh (qAw zs len);obtain⟨hGl2,hGd2⟩:=qFh (qAw zs2 len2);have hTG:∀x∈txT zs len,Gd x.1:=qIp (fun i=>qCd zs len i 6) (qEk (pkN zs len)) 0 hGd;have hTG2:∀x∈txT zs2 len2,Gd x.1:=qIp (fun i=>qCd zs2 len2 i 6) (qEk (pkN zs2 len2)) 0 hGd2;have hTL:=qGo (fun i=>qCd zs len i 6) (qEk (pkN zs len)) 0;have hTL2:=qGo (fun i=>qCd zs2 len2 i 6) (qEk (pkN zs2 len2)) 0;have hx1:(txT zs len).length<=5:=by unfold txT;omega
 have hx2:(txT zs2 len2).length<=5:=by unfold txT;omega
 have htl:=qCT (txT zs len) hTG;have htl2:=qCT (txT zs2 len2) hTG2;obtain⟨ds1,hp1,hs1⟩:=qEL (txT zs len) hTG (by omega);obtain⟨ds2,hp2,hs2⟩:=qEL (txT zs2 len2) hTG2 (by omega);obtain⟨ds3,hp3,hs3⟩:=qIc (txT zs len) (txT zs2 len2) (fun x hx=>(hTG x hx).err) (fun x hx=>(hTG2 x hx).err) (by rw[List.length_append,List.length_cons];omega);have hs:=qK6 hs3 hs1 hs2;have HT1:=hZ (qFw v zs len w hl);have HT2:=hZ (fun w h=>qFw v2 zs2 len2 w h);obtain⟨A,hA⟩:=eX (qAZ (txT zs len));obtain⟨C,hC⟩:=eX (qAZ (txT zs2 len2));rw[hA]at hp1 hp3 htl HT1;rw[hC]at hp2 hp3 htl2 HT2;have hcat:(⟨A.toArray⟩:ByteArray)++⟨#[10]⟩++⟨C.toArray⟩=⟨(A++10::C).toArray⟩:=by
  have e1:=qAh A [10];have e2:=qAh (A++[10]) C
  show(⟨A.toArray⟩:ByteArray)++⟨([10]:Bs).toArray⟩++⟨C.toArray⟩=_
  rw[e1,e2];simp
 have hNm:=qGh hp3;have HPa:=hZ (fun w=>qDj ⟨A.toArray⟩ ds1 w (by show A.length<=_;omega) hp1);have HPb:=hZ (fun w=>qDj ⟨C.toArray⟩ ds2 w (by show C.length<=_;omega) hp2);have hSl:(A++10::C).length<=8192:=by rw[List.length_append,List.length_cons];omega
 obtain⟨S,hS⟩:=eX ((⟨A.toArray⟩:ByteArray)++⟨#[10]⟩++⟨C.toArray⟩);have hSd:S.data.toList=A++10::C:=by rw[<-hS,hcat]
 have hSz:S.size<=8192:=by rw[<-hS,hcat];exact hSl
 rw[<-hSd]at hp3 hNm;have hSsz:S.data.toList.length=S.size:=by simp
 have HPc:=hZ (fun w=>qDj S ds3 w (by omega) hp3);have HNm:Hid (∀d∈ds3,∃n:Nat,d.at_=n/\n+d.name.length<=S.size/\S.extract n (n+d.name.length)=⟨d.name.toArray⟩):=hZ (fun d hd=>by
  obtain⟨n,h1,h2,h3⟩:=hNm d hd;exact⟨n,h1,by omega,qKV S n _ _ h3⟩)
 have HD1:=hZ (qCY hp1);have HD2:=hZ (qCY hp2);have HD3:=hZ (qCY hp3);have HS:=hZ hs;have HI:=hZ hl;have HJ:=hZ hl2;have HK:=hZ hK;have HP:=hZ hP;obtain⟨n1,hn1⟩:=eX ds1.length;obtain⟨n2,hn2⟩:=eX ds2.length;obtain⟨n3,hn3⟩:=eX ds3.length;have hb1:n1<=5:=by
  have h9:ds1.length=(txT zs len).length:=by simpa using congrArg List.length hs1
  omega
 have hb2:n2<=5:=by
  have h9:ds2.length=(txT zs2 len2).length:=by simpa using congrArg List.length hs2
  omega
 have hb3:n3=n1+n2:=by have h9:=qJS hs;rw[List.length_append]at h9;omega
 have Hn:Hid (ds1.length=n1/\ds2.length=n2/\ds3.length=n3/\n1<=5/\n2<=5/\n3=n1+n2):=hZ ⟨hn1,hn2,hn3,hb1,hb2,hb3⟩;have hn10:n3<=10:=by omega
 have HSz:=hZ hSz;have hq1:¬9223372036854775807<A.length+1:=by omega
 have hq2:¬9223372036854775807<A.length+1+C.length:=by omega
 have HSe:=hZ hS;clear hl hl2 hK hP hGl hGl2 hGd hGd2 hTG hTG2 hTL hTL2 hp1 hp2 hp3 hs1 hs2 hs3 hs htl htl2 hx1 hx2 hA hC hcat hNm hSl hS hSd hSsz hn1 hn2 hn3 hb1 hb2 hb3 hSz
 go_enter Tryd.func7,Tryd.ntmps7
 go_wp2_with fail
 refine(HT1.o).mono ?_;rintro e w1 ⟨rfl,hB⟩;have HB1:=hZ hB;replace HJ:=hZ (qHC HJ.o hB);clear hB
 go_wp2_with fail
 refine(HT2.o w1 HJ.o).mono ?_;rintro e w2 ⟨rfl,hB⟩;have HB2:=hZ (HB1.o.trans (hB.mono HB1.o.size));clear hB HJ HB1
 go_wp2_with fail
 refine(HPa.o w2 (HK.o.below HB2.o HK.o.lt)).mono ?_;rintro e w3 ⟨⟨a3,c3,rfl,hv,-⟩,hB⟩;have HB3:=hZ (HB2.o.trans (hB.mono HB2.o.size));have HV3:=hZ hv;clear hB HB2 hv;rw[Hn.o.1]at HV3 ⊢
 go_wp2_with fail
 refine(HPb.o w3 (HK.o.below HB3.o HK.o.lt)).mono ?_;rintro e w4 ⟨⟨a4,c4,rfl,hv,-⟩,hB⟩;have HB4:=hZ (HB3.o.trans (hB.mono HB3.o.size));replace HV3:=hZ (HV3.o.below hB);have HV4:=hZ hv;clear hB HB3 hv;rw[Hn.o.2.1]at HV4 ⊢
 go_wp2_with fail
 rw[HSe.o]
 skip
 refine(HPc.o w4 (HK.o.below HB4.o HK.o.lt)).mono ?_;rintro e w5 ⟨⟨a5,c5,rfl,hv,-⟩,hB⟩;have HB5:=hZ (HB4.o.trans (hB.mono HB4.o.size));replace HV3:=hZ (HV3.o.below hB);replace HV4:=hZ (HV4.o.below hB);have HV5:=hZ hv;clear hB HB4 hv;rw[Hn.o.2.2.1]at HV5 ⊢
 go_wp2_with fail
 refine(qHI _ ds3 w5 HV5.o (by have:=Hn.o;omega) HD3.o).mono ?_;rintro e w6 ⟨⟨a6,c6,rfl,hv⟩,hB⟩;have HB6:=hZ (HB5.o.trans (hB.mono HB5.o.size));replace HV3:=hZ (HV3.o.below hB);replace HV4:=hZ (HV4.o.below hB);replace HV5:=hZ (HV5.o.below hB);have HX3:=hZ hv;clear hB HB5 hv;rw[Hn.o.2.2.1]at HX3 ⊢;have HX6:=hZ HX3.o;have HV6:=hZ HV5.o;have HB66:=hZ HB6.o;have HBs:Hid (Below w6.heap.size w6 w6):=hZ (Below.refl _ _);clear HX3 HV5
 go_wp2_with fail
 refine(qFX _ ds1 w6 HV3.o (by have:=Hn.o;omega) HD1.o).mono ?_;rintro e w7 ⟨⟨a7,c7,rfl,hv⟩,hB⟩;have HB7:=hZ (HB6.o.trans (hB.mono HB6.o.size));replace HV4:=hZ (HV4.o.below hB);replace HBs:=bT HBs hB;clear hB HV3 HB6;obtain⟨css,o1,o2,o3⟩:=hv;have HO:=hZ o1;have HC1:Hid (Dvs w7 css ds1):=hZ ⟨o2,o3⟩;rw[Hn.o.1]at HO ⊢;clear o1 o2 o3
 go_wp2_with fail
 refine(qFX _ ds2 w7 HV4.o (by have:=Hn.o;omega) HD2.o).mono ?_;rintro e w8 ⟨⟨a8,c8,rfl,hv⟩,hB⟩;have HB8:=hZ (HB7.o.trans (hB.mono HB7.o.size));replace HBs:=bT HBs hB;replace HO:=hZ (qB1 HO.o hB);replace HC1:=hZ (HC1.o.kp (KpX.of_below (X:=[]) hB) (by simp) (by simp) (by simp));clear hB HV4 HB7;obtain⟨dss,o1,o2,o3⟩:=hv;have HO2:=hZ o1;have HC2:Hid (Dvs w8 dss ds2):=hZ ⟨o2,o3⟩;have HOn:=hZ (qKx.ones o2 o3).1;rw[Hn.o.2.1]at HO2 ⊢;clear o1 o2 o3;have HBu:=hZ (qB1 HO2.o (Below.refl _ _))
 go_wp2_with (at_builtin;refine qEq (by rfl) ?_;refine qFo (W0:=w6) (B:=w6.heap.size) (B2:=w7.heap.size) qGy rfl _ _ rfl (.slice a7 n1 c7) n1 css.flatten rfl (.slice a8 n2 c8) n2 dss.flatten rfl HO.o HO2.o HOn.o HBs.o HBs.o.size (by have:=Hn.o;omega) (by omega) ?_)
 intro va w9 HO9 HB9 HW9;have HV9:Hid (DsRef w9 va (ds1++ds2)):=hZ (qKe HC1.o.1 HC1.o.2 HC2.o.1 HC2.o.2 (by rw[Hn.o.1];exact HO.o) (by rw[Hn.o.1,Hn.o.2.1];exact HO9.o) HW9.o);have HX9:=hZ (qCQ.below HX6.o HB9.o);have HV9b:=hZ (qCQ.below HV6.o HB9.o);have HB09:=hZ (HB66.o.trans (HB9.o.mono HB66.o.size));clear HX6 HV6 HB66 HB9 HW9 HO9 HO HO2 HOn HC1 HC2 HBs HB8 HBu
 go_wp2_with fail
 refine(qHY _ _ ds3 (ds1++ds2) w9 HX9.o HV9.o HS.o (by have:=Hn.o;omega) HD3.o).mono ?_;rintro e w10 ⟨rfl,hB⟩;have HB10:=hZ (HB09.o.trans (hB.mono HB09.o.size));have HV10:=hZ (HV9b.o.below hB);clear hB HB09 HV9b HV9 HX9
 go_wp2_with fail
 go_loopw [16,17,18] (fun iv _ _ wr=>∃k:Nat,k<=n3/\iv=.int .i64 k/\Hid (Below w10.heap.size w10 wr)) (fun iv _ _ _=>n3-(intOf iv).toNat)
 case atStart=>exact⟨0,by omega,rfl,hZ (Below.refl _ _)⟩
 case round=>
  obtain⟨k,hk,rfl,HB⟩:=hrel;by_cases hlt:k<n3
  ·have h1:k<ds3.length:=by have:=Hn.o;omega
   obtain⟨wd,hwd⟩:=eX wr.drew;have hBd:Below wr.heap.size wr wd:=by rw[<-hwd];exact qAc _
   obtain⟨we,hwe⟩:=eX wd.drew;have hBe:Below wd.heap.size wd we:=by rw[<-hwe];exact qAc _
   obtain⟨g,o1,cp,cs,hv,hdc,s1,hrow⟩:=qCQ.nth (HV10.o.below HB.o) k h1;injection hv with hv hq8 hv2;subst hv hv2;obtain⟨y,hy,-⟩:=hdc;obtain⟨n,hat,hnl,hnx⟩:=HNm.o _ (List.getElem_mem h1);obtain⟨d,hd⟩:=eX (ds3[k]);rw[hd]at hy hat hnl hnx;have y1:=hrow 1 (.string ⟨d.name.toArray⟩) (by rw[hy];rfl);have y2:=hrow 2 (.int .i64 d.at_) (by rw[hy];rfl);rw[hat]at y2;obtain⟨nm,hnm⟩:=eX d.name;rw[hnm]at y1 hnl hnx;obtain⟨en,hen⟩:=eX (n+nm.length);have heni:(n:Int)+(nm.length:Int)=(en:Int):=by omega
   have Heni:=hZ heni;have hwn:IntKind.i64.wrap ((n:Int)+(nm.length:Int))=(en:Int):=by rw[IntWalk.i64_in _ (by have:=HSz.o;omega)];exact heni
   rw[hen]at hnl hnx;have hle:n<=en:=by omega
   have hn0:(0:Int)<=(k:Int):=by omega
   have hn1:(k:Int)<(n3:Int):=by omega
   have z1:wd.cell? ⟨g,o1+k*17+1,none⟩=some (.string ⟨nm.toArray⟩):=(hBd.cell (p:=⟨g,o1+k*17+1,none⟩) (World.block_lt_of_cell? wr _ y1)).trans y1;have z2:wd.cell? ⟨g,o1+k*17+2,none⟩=some (.int .i64 (n:Int)):=(hBd.cell (p:=⟨g,o1+k*17+2,none⟩) (World.block_lt_of_cell? wr _ y2)).trans y2;have HBe:Hid (Below w10.heap.size w10 we):=hZ (HB.o.trans ((hBd.trans (hBe.mono hBd.size)).mono HB.o.size));have hnls:nm.length<=8192:=by have:=HSz.o;omega
   have hns:n<=8192:=by have:=HSz.o;omega
   clear hBd hBe hd hy hat hq8 h1 HB hrow s1 hnm hen heni
   go_wp2_with fail
   rw[HSe.o];refine qAs [12] (fun W=>W.cell? ⟨g,o1+k*17+1,none⟩=some (.string ⟨nm.toArray⟩)/\W.cell? ⟨g,o1+k*17+2,none⟩=some (.int .i64 (n:Int))) (by kernel_rfl) (⟨y1,y2⟩) (fun hHeld=> ?_);rw[hwd]at hHeld ⊢;clear hwd y1 y2;refine pU 0 75 ?_;refine pU 1 76 ?_;refine pU 2 77 ?_;refine pU 3 78 ?_;refine qAb 4 79 (v:= ?_) rfl rfl (by kernel_rfl) (by kernel_rfl) (by kernel_rfl) (by kernel_rfl) (by kernel_rfl) (fun _ _ _ h=>h) (by rfl) ?_ (by assumption) ?_;rotate_left
   ·(intro w hSw;go_simp;first|done|with_reducible rfl)
   simp only[sX1,sX2,sX3];refine pU 5 80 ?_;refine pU 6 81 ?_;refine pU 7 82 ?_;refine pU 8 83 ?_;refine qAb 9 84 (v:= ?_) rfl rfl (by kernel_rfl) (by kernel_rfl) (by kernel_rfl) (by kernel_rfl) (by kernel_rfl) (fun _ _ _ h=>h) (by rfl) ?_ (by assumption) ?_;rotate_left
   ·(intro w hSw;go_simp;first|done|with_reducible rfl)
   simp only[sX1,sX2,sX3];refine qAb 10 85 (v:= ?_) rfl rfl (by kernel_rfl) (by kernel_rfl) (by kernel_rfl) (by kernel_rfl) (by kernel_rfl) (fun _ _ _ h=>h) (by rfl) ?_ (by assumption) ?_;rotate_left
   ·(intro w hSw;go_simp;first|done|with_reducible rfl)
   simp only[sX1,sX2,sX3];refine pU 11 86 ?_;refine lU 12 fun K hK=> ?_;go_simp;refine hK.out _ _ ?_;clear hK K
   try simp only[Act.put,sX1,sX2,sX3]
   refine dU ?_;clear hHeld;clear hwn;have q0:decide ((n:Int)<0)=false:=by simp
   have q00:¬(n:Int)<0:=by omega
   have hei:(en:Int)<=(S.size:Int):=by omega
   have q1:decide ((S.size:Int)<(en:Int))=false:=by simp;omega
   have q2:decide (S.size<en)=false:=by simp;omega
   go_wp2_with fail
   refine qAs [] (fun W=>W.cell? ⟨g,o1+k*17+1,none⟩=some (.string ⟨nm.toArray⟩)/\W.cell? ⟨g,o1+k*17+2,none⟩=some (.int .i64 (n:Int))) (by kernel_rfl) (⟨z1,z2⟩) (fun hHeld=> ?_);rw[hwe]at hHeld ⊢;clear hwe z1 z2;refine pU 0 87 ?_;refine pU 1 88 ?_;refine pU 2 89 ?_;refine pU 3 90 ?_;refine qAb 4 91 (v:= ?_) rfl rfl (by kernel_rfl) (by kernel_rfl) (by kernel_rfl) (by kernel_rfl) (by kernel_rfl) (fun _ _ _ h=>h) (by rfl) ?_ (by assumption) ?_;rotate_left
   ·(intro w hSw;go_simp;first|done|with_reducible rfl)
   simp only[sX1,sX2,sX3];refine pU 5 92 ?_;refine pU 6 93 ?_;refine pU 7 94 ?_;refine pU 8 95 ?_;refine qAb 9 96 (v:= ?_) rfl rfl (by kernel_rfl) (by kernel_rfl) (by kernel_rfl) (by kernel_rfl) (by kernel_rfl) (fun _ _ _ h=>h) (by rfl) ?_ (by assumption) ?_;rotate_left
   ·(intro w hSw;go_simp;first|done|with_reducible rfl)
   simp only[sX1,sX2,sX3];refine pU 10 97 ?_;refine pU 11 98 ?_;refine pU 12 99 ?_;refine pU 13 100 ?_;refine pU 14 101 ?_;refine pU 15 102 ?_;refine pU 16 103 ?_;refine pU 17 104 ?_;refine qAb 18 105 (v:= ?_) rfl rfl (by kernel_rfl) (by kernel_rfl) (by kernel_rfl) (by kernel_rfl) (by kernel_rfl) (fun _ _ _ h=>h) (by rfl) ?_ (by assumption) ?_;rotate_left
   ·(intro w hSw;go_simp;first|done|with_reducible rfl)
   simp only[sX1,sX2,sX3];refine pU 19 106 ?_;refine pU 20 107 ?_;refine pU 21 108 ?_;refine pU 22 109 ?_;refine pU 23 110 ?_;refine pU 24 111 ?_;refine qAb 25 112 (v:= ?_) rfl rfl (by kernel_rfl) (by kernel_rfl) (by kernel_rfl) (by kernel_rfl) (by kernel_rfl) (fun _ _ _ h=>h) (by rfl) ?_ (by assumption) ?_;rotate_left
   ·(intro w hSw;go_simp;first|done|with_reducible rfl)
   simp only[sX1,sX2,sX3];refine pU 26 113 ?_;refine pU 27 114 ?_;refine dU ?_;clear hHeld
   go_wp2_with fail
   go_roundw
   case rel=>exact⟨k+1,by omega,by go_num,HBe⟩
   case measure=>simp[intOf];omega
  ·have hn1:¬(k:Int)<(n3:Int):=by omega
   have HBn:=hZ (HB10.o.trans (HB.o.mono HB10.o.size));clear HB HB10
   go_wp2_with fail
   refine(qIq wr (HK.o.below HBn.o HK.o.lt) (HP.o.below HBn.o HP.o.lt)).mono ?_;rintro e w11 ⟨rfl,hB⟩;have HB11:=hZ (HBn.o.trans (hB.mono HBn.o.size));clear hB HBn
   go_wp2_with fail
   go_ret;exact⟨rfl,HB11.o⟩
end Go.Proofs.YtpmnbcdjoomgcaaDoor
