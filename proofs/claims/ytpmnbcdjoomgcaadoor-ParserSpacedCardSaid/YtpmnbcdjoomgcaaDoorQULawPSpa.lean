/- The law ParserSpaced: its walk. -/
import Derived.Test.YtpmnbcdjoomgcaaDoorQUPGe1
import Derived.Test.YtpmnbcdjoomgcaaDoorQUGSeq
import Derived.Test.YtpmnbcdjoomgcaaDoorQUPGoo2
import Derived.Test.YtpmnbcdjoomgcaaDoorQUPTx7
set_option linter.unusedVariables false
set_option linter.unusedSimpArgs false
set_option maxHeartbeats 4000000
set_option maxRecDepth 100000
namespace Go.Proofs.YtpmnbcdjoomgcaaDoor

theorem qIZ(l:List (Dc×Nat))(h:∀x∈l,qDO x.1=0){s:Bs}{ts:List Tok}(hs:s.length<=8192)(hl:lx s.length s=.ok ts)(hk:ts.map Tok.key=(l.flatMap (fun x=>pcD x.1 x.2)).map Pc.key):
 ∃ds,qAj s=.ok ds/\ds.map Dc.st=l.map (fun x=>x.1.st):=by
 obtain⟨ds,e1,e2⟩:=qEC l (ts.length+1) ts (fun x hx=>(qBB (h x hx)).1) (by omega) ⟨ts,by simp,hk⟩;refine⟨ds,?_,e2⟩;unfold qAj;rw[if_neg (by omega),hl];simp only[qDn,e1]
def spT(sep:Nat->Bs)(ts:List Tok):Nat->Bs
 |0=>[]
 |k+1=>spT sep ts k++(sep k++(match ts[k]? with|some t=>t.text|none=>[]))
def spP(sep:Nat->Bs):Nat->List Tok->List Pc
 |_,[]=>[]
 |i,t::l=>⟨sep i,t.kind,t.text,t.n⟩::spP sep (i+1) l
theorem qIC(sep:Nat->Bs):∀(l:List Tok) (i:Nat),(spP sep i l).map Pc.key=l.map Tok.key
 |[],_=>rfl
 |t::l,i=>by rw[spP,List.map_cons,List.map_cons,qIC sep l];rfl
theorem qHb(sep:Nat->Bs)(t:Tok):∀(l:List Tok) (i:Nat),qAl (spP sep i (l++[t]))=qAl (spP sep i l)++(sep (i+l.length)++t.text)
 |[],i=>by simp[spP,qAl]
 |u::l,i=>by
  rw[List.cons_append,spP,qAl,qHb sep t l,spP,qAl,List.length_cons,show i+1+l.length=i+(l.length+1) by omega];simp
theorem qE3(sep:Nat->Bs)(ts:List Tok):∀k,k<=ts.length->spT sep ts k=qAl (spP sep 0 (ts.take k))
 |0,_=>by simp[spT,spP,qAl]
 |k+1,h=>by
  have h1:k<ts.length:=by omega
  rw[spT,qE3 sep ts k (by omega),List.getElem?_eq_getElem h1,List.take_succ_eq_append_getElem h1,qHb,List.length_take,Nat.min_eq_left (by omega),Nat.zero_add]
theorem qKT{sep:Nat->Bs}(hs:∀i,qJP (sep i)):∀(l:List Tok) (i:Nat),(∀t∈l,qBU t.kind t.text t.n)->∀p∈spP sep i l,OkP p
 |[],_,_=>nofun
 |t::l,i,h=>by
  intro p hp;rw[spP]at hp;rcases List.mem_cons.1 hp with rfl|hp
  ·exact⟨h t (by simp),.inl (hs i)⟩
  ·exact qKT hs l (i+1) (fun u hu=>h u (by simp[hu])) p hp
theorem qGS(l:List (Dc×Nat))(h:∀x∈l,qDO x.1=0):∃ts,lx (qAK l).length (qAK l)=.ok ts/\ts.map Tok.key=(l.flatMap (fun x=>pcD x.1 x.2)).map Pc.key:=by
 obtain⟨ts,h1,h2⟩:=qGR (qAK l).length [] l h;rw[List.append_nil]at h1;have e0:lx (qAK l).length []=.ok []:=by rw[qCy];rfl
 rw[e0]at h1;exact⟨ts,by rw[h1];simp[qIs],h2⟩
theorem qLf{d:Dc}(h:qDO d=0)(k:Nat):∀p∈pcD d k,qBU p.k p.x p.n:=by
 intro p hp;unfold pcD at hp;rcases List.mem_cons.1 hp with rfl|hp
 ·exact qK2 (qBB h).1
 ·exact(qL0 h k p hp).tok
theorem qKy{ts:List Tok}{ps:List Pc}(h:ts.map Tok.key=ps.map Pc.key)(hp:∀p∈ps,qBU p.k p.x p.n):∀t∈ts,qBU t.kind t.text t.n:=by
 intro t ht;have:t.key∈ps.map Pc.key:=by rw[<-h];exact List.mem_map_of_mem ht
 obtain⟨p,h1,h2⟩:=List.mem_map.1 this;have q:=hp p h1;unfold Tok.key Pc.key at h2;injection h2 with a b;injection b with b c;rw[<-a,<-b,<-c];exact q
theorem qFQ(l:List (Dc×Nat))(h:∀x∈l,qDO x.1=0){ts:List Tok}(hl:lx (qAK l).length (qAK l)=.ok ts){sep:Nat->Bs}(hs:∀i,qJP (sep i))(hlen:(spT sep ts ts.length).length<=8192):
 ∃ds,qAj (spT sep ts ts.length)=.ok ds/\ds.map Dc.st=l.map (fun x=>x.1.st):=by
 obtain⟨ts',h1,h2⟩:=qGS l h;obtain rfl:ts=ts':=by rw[hl]at h1;injection h1
 have hr:=qE3 sep ts ts.length (Nat.le_refl _);rw[List.take_length]at hr;have htk:=qKy h2 (fun p hp=>by
  obtain⟨x,hx,hp⟩:=List.mem_flatMap.1 hp;exact qLf (h x hx) x.2 p hp)
 obtain⟨us,h3,h4⟩:=qEI (spT sep ts ts.length).length [] (fun k=>qJ4 k) (spP sep 0 ts) (qKT hs ts 0 htk);rw[List.append_nil,<-hr,show lx (spT sep ts ts.length).length []=.ok [] by rw[qCy];rfl]at h3;refine qIZ l h (ts:=us) hlen (by rw[h3];simp[qIs]) ?_;rw[h4,qIC,h2]
theorem qGL:∀(l:List Pr) (b:Bool),(pcL b l).length<=3*l.length
 |[],b=>by cases b<;>simp[pcL]
 |p::l,b=>by
  have:=qGL l true;rw[pcL];cases b<;>simp<;>omega
theorem qKg{d:Dc}(h:Gd d)(x:Fg):(qFy d x).length<=10:=by
 have hp:∀(w:Bs) (l:List Pr),ShL l->(qCn w l).length<=10:=fun w l hl=>by
  have h1:=qGL l false;have h2:=hl.1;unfold qCn
  split
  ·simp
  ·simp;omega
 have hc:∀(w:Bs) (n:Int),(qD6 w n).length<=10:=fun w n=>by unfold qD6;split<;>simp
 have hf:∀(w:Bs) (n:Bool),(qIt w n).length<=10:=fun w n=>by unfold qIt;split<;>simp
 have hb:(qC2 d.bind).length<=10:=by
  unfold qC2
  split
  ·simp
  ·split<;>simp
 have hx:(qBv d.chance d.of_).length<=10:=by unfold qBv;split<;>simp
 cases x
 all_goals first|exact hf _ _|exact hc _ _|exact hb|exact hx|exact hp _ _ h.tk|exact hp _ _ h.gv|exact hp _ _ h.bk
theorem qEP{α:Type}(f:α->List Pc)(n:Nat)(hf:∀x,(f x).length<=n):∀l:List α,(l.flatMap f).length<=n*l.length
 |[]=>by simp
 |a::l=>by
  have h1:=qEP f n hf l;have h2:=hf a;rw[List.flatMap_cons,List.length_append,List.length_cons,Nat.mul_succ];omega
theorem qE7:∀(l:List (List Pr)) (b:Bool),(∀r∈l,ShR r)->(qBz b l).length<=12*l.length
 |[],b,_=>by cases b<;>simp[qBz]
 |r::l,b,h=>by
  have h1:=qE7 l true (fun x hx=>h x (by simp[hx]));obtain⟨n,m,rfl,h2,h3⟩:=h r (by simp);have h4:=qGL m false;have h5:=h3.1;rw[qBz];cases b<;>simp<;>omega
theorem qF2:∀(l:List (Int×Int)) (b:Bool),(qC6 b l).length<=4*l.length
 |[],b=>by cases b<;>simp[qC6]
 |r::l,b=>by
  have h1:=qF2 l true;rw[qC6];cases b<;>simp<;>omega
theorem qLg{d:Dc}(h:Gd d)(k:Nat):(pcD d k).length<=70:=by
 unfold pcD;simp only[List.length_cons,List.length_append];have:(qDX d k).length<=60:=by
  unfold qDX
  split
  ·have h1:=qEP (qFy d) 10 (qKg h) (qIP (qCb d.kind) k)
   have h2:(qIP (qCb d.kind) k).length=(qCb d.kind).length:=by unfold qIP;simp;omega
   have h3:(qCb d.kind).length=6:=by unfold qCb;split<;>rfl
   omega
  ·have h1:=qE7 d.rows false h.rw
   have h2:=qF2 d.brs false;have:=h.rl;have:=h.bl;rw[List.length_append];omega
 simp;omega
theorem qJZ{l:List (Dc×Nat)}(h:∀x∈l,Gd x.1){ts:List Tok}(hl:lx (qAK l).length (qAK l)=.ok ts):ts.length<=70*l.length:=by
 obtain⟨ts',h1,h2⟩:=qGS l (fun x hx=>(h x hx).err);obtain rfl:ts=ts':=by rw[hl]at h1;injection h1
 have e:ts.length=(l.flatMap (fun x=>pcD x.1 x.2)).length:=by simpa using congrArg List.length h2
 rw[e];clear e h2 h1 hl
 induction l with
 |nil=>simp
 |cons a l ih=>
  have h1:=ih (fun x hx=>h x (by simp[hx]));have h2:=qLg (h a (by simp)) a.2;rw[List.flatMap_cons,List.length_append,List.length_cons];omega
theorem qIB{sep:Nat->Bs}(hs:∀i,(sep i).length<=7)(ts:List Tok):∀k,k<=ts.length->(spT sep ts k).length<=7*k+((ts.take k).map (fun t=>t.text.length)).sum
 |0,_=>by simp[spT]
 |k+1,h=>by
  have h1:k<ts.length:=by omega
  have ih:=qIB hs ts k (by omega);have:=hs k;rw[spT,List.getElem?_eq_getElem h1,List.take_succ_eq_append_getElem h1,List.map_append,List.sum_append];simp only[List.length_append,List.map_cons,List.map_nil,List.sum_cons,List.sum_nil];omega
theorem qKZ(N:Nat):∀(n:Nat) (l:Bs) (ts:List Tok),l.length<=n->lx N l=.ok ts->(ts.map fun t=>t.text.length).sum<=l.length
 |n,l,ts,hn,h=>by
  rw[qCy]at h;cases hs:sk false l with
  |nil=>rw[hs]at h;simp only[]at h;cases h;simp
  |cons c r=>
   rw[hs]at h;simp only[]at h;have hle:(c::r).length<=l.length:=by rw[<-hs];exact qC0 _ _
   have hpos:0<(c::r).length:=by simp
   cases hx:nx (N-(c::r).length) (c::r)with
   |error e'=>rw[hx]at h;cases h
   |ok t=>
    rw[hx]at h;simp only[]at h;obtain⟨h0,htx,hat⟩:=qEG hx;have htl:=qHO (c::r);have htlen:t.text.length=tl (c::r):=by rw[htx,List.length_take];omega
    obtain⟨p2,hp2⟩:∃p2,(c::r).drop (tl (c::r))=p2:=⟨_,rfl⟩;have hl2:p2.length=(c::r).length-tl (c::r):=by rw[<-hp2,List.length_drop]
    rw[hp2]at h;cases hy:lx N p2 with
    |error x=>rw[hy]at h;cases h
    |ok us=>
     rw[hy]at h;simp only[]at h;cases h;obtain⟨m,rfl⟩:∃m,n=m+1:=⟨n-1,by omega⟩;have ih:=qKZ N m p2 us (by omega) hy;rw[List.map_cons,List.sum_cons];omega
theorem qLL{l:List (Dc×Nat)}(h:∀x∈l,Gd x.1)(hl:l.length<=5){ts:List Tok}(hx:lx (qAK l).length (qAK l)=.ok ts){sep:Nat->Bs}(hs:∀i,(sep i).length<=7)(k:Nat)(hk:k<=ts.length):(spT sep ts k).length<=5000:=by
 have h1:=qJZ h hx;have h2:=qKZ _ _ _ _ (Nat.le_refl _) hx;have h3:=qBw l h;have h4:=qIB hs ts k hk;have h5:((ts.take k).map fun t=>t.text.length).sum<=(ts.map fun t=>t.text.length).sum:=by
  conv=>rhs;rw[<-List.take_append_drop k ts,List.map_append,List.sum_append]
  omega
 omega
open Go.RowKit
theorem qJV(x:Int): -9223372036854775808<=IntKind.i64.wrap x/\IntKind.i64.wrap x<=9223372036854775807:=by
 rw[IntKind.wrap_i64];omega
def qKU:List Bs:=[[32],[10],[9,32],[32,35,32,99,32,59,10]]
theorem qLd(n:Int)(h:0<=n/\n<4):(qKU.map fun s=>Value.string ⟨s.toArray⟩)[n.toNat]? =some (.string ⟨(qKU.getD n.toNat []).toArray⟩)/\(qKU.getD n.toNat []).length<=7/\qJP (qKU.getD n.toNat []):=by
 have:n=0\/n=1\/n=2\/n=3:=by omega
 rcases this with rfl|rfl|rfl|rfl
 ·exact⟨rfl,by decide,qJP.blank⟩
 ·exact⟨rfl,by decide,fun r=>qBW 10 r (by decide),10,[],rfl,.inl (by decide)⟩
 ·refine⟨rfl,by decide,fun r=> ?_,9,[32],rfl,.inl (by decide)⟩
  show sk false (9::32::r)=_
  rw[qBW 9 _ (by decide),qBW 32 _ (by decide)]
 ·refine⟨rfl,by decide,fun r=> ?_,32,[35,32,99,32,59,10],rfl,.inl (by decide)⟩
  show sk false (32::35::32::99::32::59::10::r)=_
  rw[qBW 32 _ (by decide),qIE 35 _ (by decide),qDC]
  show sk false (10::r)=_
  rw[qBW 10 _ (by decide)]
theorem qD7(v:Value)(zs:List Int)(len:Nat)(v2:Value)(zs2:List Int)(len2:Nat)(turn:Int)(w:World)(hl:qAG w v zs len)(hl2:qAG w v2 zs2 len2)(ht1: -9223372036854775808<=turn)(ht2:turn<=9223372036854775807)(hK:qAT w)(hP:qBC w):
 Calls Tryd.prog 6 #[v,v2,.int .i64 turn] w fun e w'=>e=.returned (.bool true)/\Below w.heap.size w w':=by
 obtain⟨hGl,hGd⟩:=qEh (qAy zs len);have hTG:∀x∈txT zs len,Gd x.1:=qGd (fun i=>qBE zs len i 6) (qBK (pkN zs len)) 0 hGd;have hTE:∀x∈txT zs len,qDO x.1=0:=fun x hx=>(hTG x hx).err;have hTL:=qEJ (fun i=>qBE zs len i 6) (qBK (pkN zs len)) 0;have hTS:=qHu (fun i=>qBE zs len i 6) (qBK (pkN zs len)) 0;have hx2:(txT zs len).length<=5:=by unfold txT;omega
 have htl:=qBw (txT zs len) hTG;obtain⟨ts,hlx,hkeys⟩:=qGS (txT zs len) hTE;obtain⟨sep,hsep⟩:∃sep:Nat->Bs,(fun i=>qKU.getD (qBE zs2 len2 i 4).toNat [])=sep:=⟨_,rfl⟩;obtain⟨f,hf⟩:∃f:Nat->Int,(fun i=>qBE zs2 len2 i 4)=f:=⟨_,rfl⟩;have hsp:∀i,qBE zs2 len2 i 4=f i/\0<=f i/\f i<4/\(qKU.map fun s=>Value.string ⟨s.toArray⟩)[(f i).toNat]? =some (.string ⟨(sep i).toArray⟩)/\(sep i).length<=7/\qJP (sep i):=fun i=>by
  have h1:=qC5 zs2 len2 i 4 (by omega);rw[<-hf,<-hsep];exact⟨rfl,h1.1,h1.2,qLd _ h1⟩
 have hspl:=qLL hTG hx2 hlx (sep:=sep) (fun i=>(hsp i).2.2.2.2.1);obtain⟨ds2,hp2,hs2⟩:=qFQ (txT zs len) hTE hlx (sep:=sep) (fun i=>(hsp i).2.2.2.2.2) (by have:=hspl ts.length (Nat.le_refl _);omega);have hs2:ds2.map Dc.st=(qBK (pkN zs len)).map Dc.st:=hs2.trans hTS;obtain⟨ds1,hp1,hs1⟩:=qCP (txT zs len) hTG (by omega);have hs1:ds1.map Dc.st=(qBK (pkN zs len)).map Dc.st:=hs1.trans hTS;have hUG:=qGd (fun k=>IntKind.i64.wrap (turn+k)) (qBK (pkN zs len)) 0 hGd;have hUL:=qEJ (fun k=>IntKind.i64.wrap (turn+k)) (qBK (pkN zs len)) 0;obtain⟨ds3,hp3,hs3⟩:=qCP (lnK (fun k=>IntKind.i64.wrap (turn+k)) 0 (qBK (pkN zs len))) hUG (by omega);have hs3:ds3.map Dc.st=(qBK (pkN zs len)).map Dc.st:=hs3.trans (qHu _ _ _);have hul:=qBw _ hUG;have HT0:=hZ (qEr v zs len w hl);have HG0:=hZ (fun w h=>qDN v zs len w h);obtain⟨T,hT⟩:=eX (qAK (txT zs len));obtain⟨L,hL⟩:=eX (qBK (pkN zs len));obtain⟨U,hU⟩:=eX (qAK (lnK (fun k=>IntKind.i64.wrap (turn+k)) 0 L));rw[hT]at hp1 htl HT0 hlx;rw[hL]at hp3 hs1 hs2 hs3 hul hGl hUL hGd HG0;rw[hU]at hp3 hul;have HU:=hZ hU;have HGd:=hZ hGd;have htz:(⟨T.toArray⟩:ByteArray).size<=8192:=by show T.length<=_;omega
 have HTk:=hZ (fun w=>qFO ⟨T.toArray⟩ ts w htz hlx);have HPa:=hZ (fun w=>qBq ⟨T.toArray⟩ ds1 w (by omega) hp1);have hsz2:=hspl ts.length (Nat.le_refl _);have HPb:=hZ (fun w=>qBq ⟨(spT sep ts ts.length).toArray⟩ ds2 w (by show(spT sep ts ts.length).length<=_;omega) hp2);have HPc:=hZ (fun w=>qBq ⟨U.toArray⟩ ds3 w (by show U.length<=_;omega) hp3);have HD1:=hZ (qB7 hp1);have HD2:=hZ (qB7 hp2);have HD3:=hZ (qB7 hp3);have HS1:=hZ hs1;have HS2:=hZ hs2;have HS3:=hZ hs3;have HSp:=hZ hsp;have HSl:=hZ hspl;have HI:=hZ hl;have HJ:=hZ hl2;have HK:=hZ hK;have HP:=hZ hP;obtain⟨n,hn⟩:=eX L.length;obtain⟨m,hm⟩:=eX ts.length;have hn1:ds1.length=n:=by rw[<-hn];exact qEo hs1
 have hn2:ds2.length=n:=by rw[<-hn];exact qEo hs2
 have hn3:ds3.length=n:=by rw[<-hn];exact qEo hs3
 have hm5:m<=8192:=by have h9:=qCx _ _ _ _ (Nat.le_refl _) hlx;omega
 have hnn:n<=5:=by omega
 rw[hm]at HTk HPb;have Hn:Hid (L.length=n/\ds1.length=n/\ds2.length=n/\ds3.length=n/\ts.length=m/\n<=5):=hZ ⟨hn,hn1,hn2,hn3,hm,hnn⟩;obtain⟨va,vc,rfl⟩:=hl2.form;clear hl hl2 hK hP hGl hGd hTG hTE hTL hTS hp1 hp2 hp3 hs1 hs2 hs3 htl hx2 hT hL hU hlx hkeys hsep hf hsp hspl hUG hUL hul htz hsz2 hn hm hn1 hn2 hn3
 go_enter Tryd.func6,Tryd.ntmps6
 go_wp2_with fail
 refine(HT0.o).mono ?_;rintro e w1 ⟨rfl,hB⟩;have HB1:=hZ hB;replace HI:=hZ (qAZ HI.o hB);replace HJ:=hZ (qAZ HJ.o hB);clear hB
 go_wp2_with fail
 refine(HTk.o w1 (HK.o.below HB1.o HK.o.lt)).mono ?_;rintro e w2 ⟨⟨a2,c2,rfl,hv⟩,hB⟩;have HB2:=hZ (HB1.o.trans (hB.mono HB1.o.size));replace HI:=hZ (qAZ HI.o hB);replace HJ:=hZ (qAZ HJ.o hB);have HV2:=hZ hv;clear hB HB1 hv
 go_wp2_with fail
 go_loopw [11,12] (fun sv iv wr=>∃k:Nat,k<=m/\iv=.int .i64 k/\sv=.string ⟨(spT sep ts k).toArray⟩/\Hid (Below w2.heap.size w2 wr)) (fun _ iv _=>m-(intOf iv).toNat)
 case atStart=>exact⟨0,by omega,rfl,rfl,hZ (Below.refl _ _)⟩
 case round=>
  obtain⟨k,hk,rfl,rfl,HB⟩:=hrel;by_cases hlt:k<m
  ·have h1:k<ts.length:=by have:=Hn.o.2.2.2.2.1;omega
   obtain⟨wd,hwd⟩:=eX wr.drew;have hBd:Below wr.heap.size wr wd:=by rw[<-hwd];exact qAc _
   obtain⟨g,o1,cp,hv,y1,-⟩:=qCW.two (HV2.o.kb HB.o) k h1;injection hv with hv hq1 hv2;subst hv hv2;have HT:Hid (spT sep ts (k+1)=spT sep ts k++(sep k++ts[k].text)):=hZ (by rw[spT,List.getElem?_eq_getElem h1]);have hlen:=HSl.o (k+1) h1;rw[HT.o,List.length_append,List.length_append]at hlen;obtain⟨x,hx⟩:=eX (ts[k].text);rw[hx]at y1 HT hlen;obtain⟨t,ht⟩:=eX (spT sep ts k);rw[ht]at HT hlen ⊢;have HIr:qAG wr (.slice va len2 vc) zs2 len2:=HJ.o.below (Nat.le_refl _) HB.o;have HId:Hid (qAG wd (.slice va len2 vc) zs2 len2):=hZ (HIr.below (Nat.le_refl _) hBd);obtain⟨hf1,hf2,hf3,hf4, -,-⟩:=HSp.o k;have Hf1:=hZ hf1;obtain⟨q,hq⟩:=eX (sep k);rw[hq]at hf4 HT hlen;obtain⟨fk,hfk⟩:=eX (f k);rw[hfk]at hf2 hf3 hf4 Hf1;have HBd:Hid (Below w2.heap.size w2 wd):=hZ (HB.o.trans (hBd.mono HB.o.size));obtain⟨wl,hwl⟩:=eX (wd.alloc (.cells #[.string ⟨#[32]⟩,.string ⟨#[10]⟩,.string ⟨#[9,32]⟩,.string ⟨#[32,35,32,99,32,59,10]⟩] 9));have hBl:Below wd.heap.size wd wl:=by rw[<-hwl];exact qAa _ _
   have hcx:wl.cell? ⟨wd.heap.size,fk.toNat,none⟩=some (.string ⟨q.toArray⟩):=by
    rw[<-hwl];refine(?_:(wd.alloc (.cells (qKU.map fun s=>Value.string ⟨s.toArray⟩).toArray 9)).cell? ⟨wd.heap.size,fk.toNat,none⟩=_);rw[cell_of_row _ wd.heap.size fk.toNat (qKU.map fun s=>Value.string ⟨s.toArray⟩).toArray 9 (0,0) (heap_alloc_new wd _)];simpa using hf4
   have yd:wd.cell? ⟨g,o1+k*4+1,none⟩=some (.string ⟨x.toArray⟩):=(hBd.cell (p:=⟨g,o1+k*4+1,none⟩) (World.block_lt_of_cell? wr _ y1)).trans y1;have yl:wl.cell? ⟨g,o1+k*4+1,none⟩=some (.string ⟨x.toArray⟩)/\qAG wl (.slice va len2 vc) zs2 len2:=⟨(hBl.cell (p:=⟨g,o1+k*4+1,none⟩) (World.block_lt_of_cell? wd _ yd)).trans yd,HId.o.below (Nat.le_refl _) hBl⟩;have HBl:Hid (Below w2.heap.size w2 wl):=hZ (HBd.o.trans (hBl.mono HBd.o.size));have hn0:(0:Int)<=(k:Int):=by omega
   have hn1:(k:Int)<(m:Int):=by omega
   have s1:¬9223372036854775807<t.length+q.length:=by omega
   have s2:¬9223372036854775807<t.length+q.length+x.length:=by omega
   clear hBd hBl hx ht hq hfk hq1 h1 HB hf1 hf4 hlen yd
   go_wp2_with fail
   refine qAr [14] (fun W=>W.cell? ⟨g,o1+k*4+1,none⟩=some (.string ⟨x.toArray⟩)/\qAG W (.slice va len2 vc) zs2 len2) (by kernel_rfl) (⟨y1,HIr⟩) (fun hHeld=> ?_);rw[hwd]at hHeld ⊢;clear hwd y1 HIr;refine pU 0 39 ?_;refine pU 2 41 ?_;refine pU 3 42 ?_;refine qB5 4 43 (v:=.int .i64 fk) rfl rfl (by kernel_rfl) (by kernel_rfl) (by kernel_rfl) (by kernel_rfl) (by kernel_rfl) (fun _ _ _ h=>h) (by rfl) ?_ (by assumption) ?_
   ·(intro w hSw;refine⟨_,_,?_,(by have h9:=qFx (.slice va len2 vc) zs2 len2 k 4 w hSw.2 (by omega) (by omega) (by omega);rw[Hf1.o]at h9;exact h9)⟩;go_simp;first|done|with_reducible rfl)
   simp only[sX1,sX2,sX3];refine pU 8 47 ?_;refine pU 9 48 ?_;refine pU 10 49 ?_;refine pU 11 50 ?_;refine qAb 12 51 (v:= ?_) rfl rfl (by kernel_rfl) (by kernel_rfl) (by kernel_rfl) (by kernel_rfl) (by kernel_rfl) (fun _ _ _ h=>h) (by rfl) ?_ (by assumption) ?_;rotate_left
   ·(intro w hSw;go_simp;first|done|with_reducible rfl)
   simp only[sX1,sX2,sX3];refine eU 1 fun K hK=> ?_;go_simp;clear hwl
   go_wp2_with fail
   refine hK.out _ _ (yl) (fun hHeld=> ?_);clear hK K
   try simp only[Act.put,sX1,sX2,sX3]
   clear yl;refine pU 5 44 ?_;refine eU 6 fun K hK=> ?_;go_simp;clear hcx
   go_wp2_with fail
   refine hK.out _ _ (hHeld) (fun hHeld=> ?_);clear hK K
   try simp only[Act.put,sX1,sX2,sX3]
   refine pU 7 46 ?_;refine pU 13 52 ?_;refine lU 14 fun K hK=> ?_;go_simp;refine hK.out _ _ ?_;clear hK K
   try simp only[Act.put,sX1,sX2,sX3]
   refine dU ?_;clear hHeld
   go_wp2_with fail
   go_roundw
   case rel=>
    refine⟨k+1,by omega,by go_num,?_,HBl⟩;rw[HT.o];refine congrArg Value.string ?_;have e1:=qAh t q;have e2:=qAh (t++q) x;rw[e1,e2,List.append_assoc]
   case measure=>simp[intOf];omega
  ·have hn1:¬(k:Int)<(m:Int):=by omega
   have hkm:k=m:=by omega
   have HX:Hid ((⟨(spT sep ts k).toArray⟩:ByteArray)=⟨(spT sep ts m).toArray⟩):=hZ (by rw[hkm]);obtain⟨X,hX⟩:=eX ((⟨(spT sep ts m).toArray⟩:ByteArray));rw[hX]at HX HPb;rw[HX.o];have HBm:=hZ (HB2.o.trans (HB.o.mono HB2.o.size));replace HI:=hZ (qAZ HI.o HB.o);clear hkm HX hX HB HB2 HV2 HSl HSp HJ hk hlt
   go_wp2_with fail
   refine(HG0.o wr HI.o).mono ?_;rintro e w4 ⟨⟨u,rfl,hv⟩,hB⟩;have HB4:=hZ (HBm.o.trans (hB.mono HBm.o.size));have HU4:=hZ hv;clear hB HI HBm hv;obtain⟨ua,uc,rfl, -,-⟩:=TSl.form HU4.o;rw[Hn.o.1]at HU4 ⊢
   go_wp2_with fail
   go_loopw [14,15] (fun sv iv wr=>∃(k:Nat) (t:Bs),k<=n/\iv=.int .i64 k/\sv=.string ⟨t.toArray⟩/\Hid (U=t++qAK (lnK (fun k=>IntKind.i64.wrap (turn+k)) k (L.drop k)))/\t.length<=400*k/\Hid (Below w4.heap.size w4 wr)) (fun _ iv _=>n-(intOf iv).toNat)
   case atStart=>exact⟨0,[],by omega,rfl,rfl,hZ HU.o.symm,by simp,hZ (Below.refl _ _)⟩
   case round=>
    obtain⟨k2,t,hk2,rfl,rfl,HT,htl,HB⟩:=hrel;by_cases hlt:k2<n
    ·have h1:k2<L.length:=by have:=Hn.o.1;omega
     have hT:=HT.o;rw[qHv _ L k2 h1]at hT;obtain⟨g,o1,cp,cs,hv,hdc,s1,hrow⟩:=qDd.nth (HU4.o.kp (KpX.of_below (X:=[]) HB.o) (by simp) (by simp) (by simp) (by simp)) k2 h1;injection hv with hv hq1 hv2;subst hv hv2;obtain⟨y,hy,hlr⟩:=hdc;have hGk:=HGd.o _ (List.getElem_mem h1);obtain⟨d,hd⟩:=eX (L[k2]);rw[hd]at hy hlr hGk hT;have hi1:(Tryd.prog.info? 34).map (·.size)=some cs.length:=by rw[s1];exact qEL
     obtain⟨tn,htn⟩:=eX (IntKind.i64.wrap (turn+(k2:Int)));have hw:=qJV (turn+(k2:Int));simp only[htn]at hT;rw[htn]at hw;have hlen:=hGk.len (qA4 tn (qAf d).length).toNat;have HLN:=hZ (qFX d y tn wr hGk hlr hw.1 hw.2);rw[<-hy]at HLN;obtain⟨x,hx⟩:=eX (qBd d (qA4 tn (qAf d).length).toNat);rw[hx]at HLN hlen hT;have HT2:Hid (U=t++x++qAK (lnK (fun k=>IntKind.i64.wrap (turn+k)) (k2+1) (L.drop (k2+1)))):=hZ (by rw[hT];simp);have hn0:(0:Int)<=(k2:Int):=by omega
     have hn1:(k2:Int)<(n:Int):=by omega
     have hs1:¬9223372036854775807<t.length+x.length:=by omega
     clear hT hx hd hGk hlr hy hq1 h1 HT hw s1
     go_wp2_with (refine qAY rfl _ _ rfl g (o1+k2*17) rfl cs _ hrow Tryd.underlying34 rfl hi1 ?_)
     refine HLN.o.mono ?_;rintro e w5 ⟨rfl,hBn⟩;have HB5:Hid (Below w4.heap.size w4 w5):=hZ (HB.o.trans (hBn.mono HB.o.size));clear hBn HB hrow hi1 htn
     go_wp2_with fail
     go_roundw
     case rel=>exact⟨k2+1,t++x,by omega,by go_num,congrArg Value.string (qAh t x),HT2,by simp;omega,HB5⟩
     case measure=>simp[intOf];omega
    ·have hn1:¬(k2:Int)<(n:Int):=by omega
     have hT:t=U:=by
      have h9:=HT.o;rw[List.drop_of_length_le (by have:=Hn.o.1;omega)]at h9;rw[h9];simp[lnK,qAK]
     subst hT;have HBn:=hZ (HB4.o.trans (HB.o.mono HB4.o.size));clear HT HB HB4 HU4 htl
     go_wp2_with fail
     refine(HPa.o wr (HK.o.below HBn.o HK.o.lt)).mono ?_;rintro e w5 ⟨⟨a5,c5,rfl,hv,-⟩,hB⟩;have HB5:=hZ (HBn.o.trans (hB.mono HBn.o.size));have HV5:=hZ hv;clear hB HBn hv;rw[Hn.o.2.1]at HV5 ⊢
     go_wp2_with fail
     refine(HPb.o w5 (HK.o.below HB5.o HK.o.lt)).mono ?_;rintro e w6 ⟨⟨a6,c6,rfl,hv,-⟩,hB⟩;have HB6:=hZ (HB5.o.trans (hB.mono HB5.o.size));replace HV5:=hZ (HV5.o.below hB);have HV6:=hZ hv;clear hB HB5 hv;rw[Hn.o.2.2.1]at HV6 ⊢
     go_wp2_with fail
     refine(HPc.o w6 (HK.o.below HB6.o HK.o.lt)).mono ?_;rintro e w7 ⟨⟨a7,c7,rfl,hv,-⟩,hB⟩;have HB7:=hZ (HB6.o.trans (hB.mono HB6.o.size));replace HV5:=hZ (HV5.o.below hB);replace HV6:=hZ (HV6.o.below hB);have HV7:=hZ hv;clear hB HB6 hv;rw[Hn.o.2.2.2.1]at HV7 ⊢
     go_wp2_with fail
     refine(qBt _ ds1 w7 HV5.o (by have:=Hn.o;omega) HD1.o).mono ?_;rintro e w8 ⟨⟨a8,c8,rfl,hv⟩,hB⟩;have HB8:=hZ (HB7.o.trans (hB.mono HB7.o.size));replace HV5:=hZ (HV5.o.below hB);replace HV6:=hZ (HV6.o.below hB);replace HV7:=hZ (HV7.o.below hB);have HX1:=hZ hv;clear hB HB7 hv;rw[Hn.o.2.1]at HX1 ⊢
     go_wp2_with fail
     refine(qBt _ ds2 w8 HV6.o (by have:=Hn.o;omega) HD2.o).mono ?_;rintro e w9 ⟨⟨a9,c9,rfl,hv⟩,hB⟩;have HB9:=hZ (HB8.o.trans (hB.mono HB8.o.size));replace HV5:=hZ (HV5.o.below hB);replace HV7:=hZ (HV7.o.below hB);replace HX1:=hZ (HX1.o.below hB);have HX2:=hZ hv;clear hB HV6 HB8 hv;rw[Hn.o.2.2.1]at HX2 ⊢
     go_wp2_with fail
     refine(qDl _ _ ds1 ds2 w9 HX1.o HX2.o (HS1.o.trans HS2.o.symm) (by have:=Hn.o;omega) HD1.o).mono ?_;rintro e w10 ⟨rfl,hB⟩;have HB10:=hZ (HB9.o.trans (hB.mono HB9.o.size));replace HV5:=hZ (HV5.o.below hB);replace HV7:=hZ (HV7.o.below hB);clear hB HX1 HX2 HB9
     go_wp2_with fail
     refine(qBt _ ds1 w10 HV5.o (by have:=Hn.o;omega) HD1.o).mono ?_;rintro e w11 ⟨⟨a11,c11,rfl,hv⟩,hB⟩;have HB11:=hZ (HB10.o.trans (hB.mono HB10.o.size));replace HV7:=hZ (HV7.o.below hB);have HX1:=hZ hv;clear hB HV5 HB10 hv;rw[Hn.o.2.1]at HX1 ⊢
     go_wp2_with fail
     refine(qBt _ ds3 w11 HV7.o (by have:=Hn.o;omega) HD3.o).mono ?_;rintro e w12 ⟨⟨a12,c12,rfl,hv⟩,hB⟩;have HB12:=hZ (HB11.o.trans (hB.mono HB11.o.size));replace HX1:=hZ (HX1.o.below hB);have HX2:=hZ hv;clear hB HV7 HB11 hv;rw[Hn.o.2.2.2.1]at HX2 ⊢
     go_wp2_with fail
     refine(qDl _ _ ds1 ds3 w12 HX1.o HX2.o (HS1.o.trans HS3.o.symm) (by have:=Hn.o;omega) HD1.o).mono ?_;rintro e w13 ⟨rfl,hB⟩;have HB13:=hZ (HB12.o.trans (hB.mono HB12.o.size));clear hB HX1 HX2 HB12
     go_wp2_with fail
     refine(qCz w13 (HK.o.below HB13.o HK.o.lt) (HP.o.below HB13.o HP.o.lt)).mono ?_;rintro e w14 ⟨rfl,hB⟩;have HB14:=hZ (HB13.o.trans (hB.mono HB13.o.size));clear hB HB13
     go_wp2_with fail
     go_ret;exact⟨rfl,HB14.o⟩
end Go.Proofs.YtpmnbcdjoomgcaaDoor
