/- The law ParserParse: its walk. -/
import Derived.Test.YtpmnbcdjoomgcaaGreatDoorQPPGe1
import Derived.Test.YtpmnbcdjoomgcaaGreatDoorQPPTx3
import Derived.Test.YtpmnbcdjoomgcaaGreatDoorQPRef01
import Derived.IntWalk
import Derived.Test.YtpmnbcdjoomgcaaGreatDoorQPPLive
import Derived.Test.YtpmnbcdjoomgcaaGreatDoorQPPTx7
set_option linter.unusedVariables false
set_option linter.unusedSimpArgs false
set_option maxHeartbeats 4000000
set_option maxRecDepth 100000
namespace Go.Proofs.YtpmnbcdjoomgcaaGreatDoor
open Go.RowKit
def qLd:List Bs:=[[32,53,32],[32,97,32],[32,59,32],[32,44,32],[32,58,32],[32,43,32],[32,105,116,101,109,32],[32,114,117,108,101,32],[32,111,98,106,101,99,116,32],[32,119,101,97,114,32,50,32],[32,108,101,118,101,108,32,51,32],[32,116,97,107,101,32,49,32,120,32],[32,111,102,32],[32,98,105,110,100,32,103,101,116,32],[45],[32,116,105,109,101,32],[32,57,57,57,57,57,57,57,57,57,57,57,57,57,57,32],[32,35,32],[10],[32,99,104,97,110,99,101,32]]
def qKO:List Value:=qLd.map fun s=> .string ⟨s.toArray⟩
theorem qKT(n:Nat)(h:n<20):∃x:ByteArray,qKO[n]? =some (.string x)/\x.size<=20:=by
 have:∀i:Fin 20,((qLd.getD i.1 []).length<=20):=by decide +kernel
 have h2:n<qLd.length:=h;refine⟨⟨(qLd.getD n []).toArray⟩,?_,this ⟨n,h⟩⟩;unfold qKO;rw[List.getElem?_map,List.getD_eq_getElem?_getD,List.getElem?_eq_getElem h2];rfl
theorem qER(s:ByteArray)(at_ how:Int)(w:World)(hs:s.size<=1000000)(h1: -9223372036854775808<=at_)(h2:at_<=9223372036854775807)(h3: -9223372036854775808<=how)(h4:how<=9223372036854775807):
 Calls Tryz.prog 5 #[.string s,.int .i64 at_,.int .i64 how] w fun e w'=>(∃r:ByteArray,e=.returned (.string r)/\r.size<=s.size+20)/\Below w.heap.size w w':=by
 obtain⟨wl,hwl⟩:=eX (w.alloc (.cells qKO.toArray 9));have hBl:Below w.heap.size w wl:=by rw[<-hwl];exact qAa _ _
 have hcx:∀n,wl.cell? ⟨w.heap.size,n,none⟩=qKO[n]? :=fun n=>by
  rw[<-hwl,cell_of_row (w.alloc (.cells qKO.toArray 9)) w.heap.size n qKO.toArray 9 (0,0) (heap_alloc_new w _)];simp
 have HA1:=hZ (fun w=>qBx at_ ((s.size:Int)+1) w h1 h2 (by omega) (by omega));have HA2:=hZ (fun w=>qBx how 28 w h3 h4 (by omega) (by omega));have hr1:=qAW at_ ((s.size:Int)+1) (by omega);have hr2:=qAW how 28 (by omega);obtain⟨k,hk⟩:∃k:Nat,qAu at_ ((s.size:Int)+1)=k:=⟨(qAu at_ ((s.size:Int)+1)).toNat,by omega⟩;obtain⟨n,hn⟩:∃k:Nat,qAu how 28=k:=⟨(qAu how 28).toNat,by omega⟩;rw[hk]at hr1 HA1;rw[hn]at hr2 HA2;have hk1:k<=s.size:=by omega
 have hn1:n<28:=by omega
 have HBl:=hZ hBl;have HCx:=hZ hcx;clear hr1 hr2 hk hn h1 h2 h3 h4 hBl hcx
 go_enter Tryz.func5,Tryz.ntmps5
 go_wp2_with fail
 refine(HA1.o _).mono ?_;rintro e w9 ⟨rfl,hw9⟩;subst hw9
 go_wp2_with fail
 refine(HA2.o _).mono ?_;rintro e w9 ⟨rfl,hw9⟩;subst hw9;have hwl2:w.alloc (.cells #[.string ⟨#[32,53,32]⟩,.string ⟨#[32,97,32]⟩,.string ⟨#[32,59,32]⟩,.string ⟨#[32,44,32]⟩,.string ⟨#[32,58,32]⟩,.string ⟨#[32,43,32]⟩,.string ⟨#[32,105,116,101,109,32]⟩,.string ⟨#[32,114,117,108,101,32]⟩,.string ⟨#[32,111,98,106,101,99,116,32]⟩,.string ⟨#[32,119,101,97,114,32,50,32]⟩,.string ⟨#[32,108,101,118,101,108,32,51,32]⟩,.string ⟨#[32,116,97,107,101,32,49,32,120,32]⟩,.string ⟨#[32,111,102,32]⟩,.string ⟨#[32,98,105,110,100,32,103,101,116,32]⟩,.string ⟨#[45]⟩,.string ⟨#[32,116,105,109,101,32]⟩,.string ⟨#[32,57,57,57,57,57,57,57,57,57,57,57,57,57,57,32]⟩,.string ⟨#[32,35,32]⟩,.string ⟨#[10]⟩,.string ⟨#[32,99,104,97,110,99,101,32]⟩] 9)=wl:=hwl;rw[hwl2];obtain⟨b,hb⟩:=eX w.heap.size;rw[hb]at HCx HBl ⊢;by_cases hc:n<20
 ·obtain⟨x,hx,hx20⟩:=qKT n hc
  have c1:wl.cell? ⟨b,n,none⟩=some (.string x):=(HCx.o n).trans hx;have hc1:(n:Int)<20:=by omega
  have hn0:(0:Int)<=(n:Int):=by omega
  clear hwl hwl2 hx;have e1:(s.extract 0 k).size=k:=by rw[ByteArray.size_extract];omega
  have e2:(s.extract k s.size).size=s.size-k:=by rw[ByteArray.size_extract];omega
  have s1:¬9223372036854775807<k+x.size:=by omega
  have s2:¬9223372036854775807<k+x.size+(s.size-k):=by omega
  have hk1i:(k:Int)<=(s.size:Int):=by omega
  have hk0:(0:Int)<=(k:Int):=by omega
  obtain⟨wd,hwd⟩:=eX wl.drew;have hBd:Below wl.heap.size wl wd:=by rw[<-hwd];exact qAd _
  have hsz:b<=wl.heap.size:=by have h9:=HBl.o.size;omega
  have HBd:Hid (Below b w wd):=hZ (HBl.o.trans (hBd.mono hsz));clear hBd
  go_wp2_with fail
  refine qAr [12] (fun W=>W.cell? ⟨b,n,none⟩=some (.string x)) (by kernel_rfl) (c1) (fun hHeld=> ?_);rw[hwd]at hHeld ⊢;clear hwd c1;refine pU 0 22 ?_;refine pU 1 23 ?_;refine pU 2 24 ?_;refine pU 3 25 ?_;refine pU 4 26 ?_;refine pU 5 27 ?_;refine qAc 6 28 (v:= ?_) rfl rfl (by kernel_rfl) (by kernel_rfl) (by kernel_rfl) (by kernel_rfl) (by kernel_rfl) (fun _ _ _ h=>h) (by rfl) ?_ (by assumption) ?_;rotate_left
  ·(intro w hSw;go_simp;first|done|with_reducible rfl)
  simp only[sX1,sX2,sX3];refine pU 8 30 ?_;refine pU 9 31 ?_;refine pU 10 32 ?_;refine pU 7 29 ?_;refine pU 11 33 ?_;refine lU 12 fun K hK=> ?_;go_simp;refine hK.out _ _ ?_;clear hK K
  try simp only[Act.put,sX1,sX2,sX3]
  refine dU ?_;clear hHeld
  go_wp2_with fail
  go_ret;refine⟨⟨_,rfl,?_⟩,by rw[hb];exact HBd.o⟩;rw[ByteArray.size_append,ByteArray.size_append,e1,e2];omega
 ·have hc1:¬(n:Int)<20:=by omega
  clear hwl hwl2;obtain⟨wd,hwd⟩:=eX wl.drew;have hBd:Below wl.heap.size wl wd:=by rw[<-hwd];exact qAd _
  have hsz:b<=wl.heap.size:=by have h9:=HBl.o.size;omega
  have HBd:Hid (Below b w wd):=hZ (HBl.o.trans (hBd.mono hsz));obtain⟨j,hj⟩:=eX (n%4);have hj4:j<4:=by omega
  have hmi:(n:Int).tmod 4=(j:Int):=by rw[<-hj];push_cast;exact Int.tmod_eq_emod_of_nonneg (by omega)
  obtain⟨q,hq⟩:=eX (min s.size (k+1+j));have hqi:min (s.size:Int) ((k:Int)+1+(j:Int))=(q:Int):=by omega
  have hw1:IntKind.i64.wrap ((k:Int)+1)=(k:Int)+1:=IntWalk.i64_in _ (by omega);have hw2:IntKind.i64.wrap ((k:Int)+1+(j:Int))=(k:Int)+1+(j:Int):=IntWalk.i64_in _ (by omega);have hqs:q<=s.size:=by omega
  have hq1:(q:Int)<=(s.size:Int):=by omega
  have hq0:(0:Int)<=(q:Int):=by omega
  have hk1i:(k:Int)<=(s.size:Int):=by omega
  have hk0:(0:Int)<=(k:Int):=by omega
  have e1:(s.extract 0 k).size=k:=by rw[ByteArray.size_extract];omega
  have e2:(s.extract q s.size).size=s.size-q:=by rw[ByteArray.size_extract];omega
  have s3:¬9223372036854775807<k+(s.size-q):=by omega
  clear hBd hj hq
  go_wp2_with fail
  refine qAr [14] (fun W=>True) (by kernel_rfl) (trivial) (fun hHeld=> ?_);rw[hwd];clear hwd;refine pU 0 34 ?_;refine pU 1 35 ?_;refine pU 2 36 ?_;refine pU 3 37 ?_;refine pU 4 38 ?_;refine qAc 5 39 (v:= ?_) rfl rfl (by kernel_rfl) (by kernel_rfl) (by kernel_rfl) (by kernel_rfl) (by kernel_rfl) (fun _ _ _ h=>h) (by rfl) ?_ (by assumption) ?_;rotate_left
  ·(intro w hSw;go_simp;first|done|with_reducible rfl)
  simp only[sX1,sX2,sX3];refine pU 6 40 ?_;refine pU 7 41 ?_;refine pU 8 42 ?_;refine pU 9 43 ?_;refine pU 10 44 ?_;refine qAc 11 45 (v:= ?_) rfl rfl (by kernel_rfl) (by kernel_rfl) (by kernel_rfl) (by kernel_rfl) (by kernel_rfl) (fun _ _ _ h=>h) (by rfl) ?_ (by assumption) ?_;rotate_left
  ·(intro w hSw;go_simp;first|done|with_reducible rfl)
  simp only[sX1,sX2,sX3];refine pU 12 46 ?_;refine pU 13 47 ?_;refine lU 14 fun K hK=> ?_;go_simp;refine hK.out _ _ ?_;clear hK K
  try simp only[Act.put,sX1,sX2,sX3]
  refine dU ?_;clear hHeld
  go_wp2_with fail
  go_ret;refine⟨⟨_,rfl,?_⟩,by rw[hb];exact HBd.o⟩;rw[ByteArray.size_append,e1,e2];omega
def qGW:List Bs:=[[97],[105,114,111,110],[103,111,108,100,95,50],[120],[49,50],[48],[49,48,57,57,53,49,49,54,50,55,55,55,54],[48,48,55],[58],[59],[44],[40],[41],[123],[125],[61],[60],[62],[43],[46],[45,62],[32],[10],[9],
 [35,32,99,32,34,10],[35],[105,116,101,109],[114,117,108,101],[97,50,51,52,53,54,55,56,57,48,49,50,51,52,53,54],[97,50,51,52,53,54,55,56,57,48,49,50,51,52,53,54,55],[49,48,57,57,53,49,49,54,50,55,55,55,55],[45],[65],[95],[195,169],[13]]
def qD2(i:Nat):Bs:=qGW.getD i []
theorem qFV(i:Nat):(qD2 i).length<=17:=by
 unfold qD2;rcases Nat.lt_or_ge i 36 with h|h
 ·have:∀j:Fin 36,(qGW.getD j.1 []).length<=17:=by decide +kernel
  exact this ⟨i,h⟩
 ·rw[List.getD_eq_getElem?_getD,List.getElem?_eq_none (by exact h)];simp
def qBN:List Value:=qGW.map fun b=> .string ⟨b.toArray⟩
theorem qJg(i:Nat)(h:i<qBN.length):qBN[i]'h=.string ⟨(qD2 i).toArray⟩:=by
 have h':i<qGW.length:=by simpa[qBN]using h
 unfold qD2;rw[List.getD_eq_getElem?_getD,List.getElem?_eq_getElem h'];simp[qBN]
theorem qJh(n:Int)(w:World)(h1: -9223372036854775808<=n)(h2:n<=9223372036854775807):
 Calls Tryz.prog 17 #[.int .i64 n] w fun e w'=>e=.returned (.string ⟨(qD2 (qAu n 36).toNat).toArray⟩)/\w'=w.alloc (.cells qBN.toArray 9):=by
 have hr:=qAW n 36 (by omega);have hp:Hid (∀h,qBN[(qAu n 36).toNat]'h=.string ⟨(qD2 (qAu n 36).toNat).toArray⟩):=hZ (fun h=>qJg _ h);have Ha:=hZ (fun w=>qBx n 36 w h1 h2 (by omega) (by omega));generalize qD2 (qAu n 36).toNat=r at *;generalize qAu n 36=q at *
 go_enter Tryz.func17,Tryz.ntmps17
 go_wp2_with (go_at_call 12;refine(Ha.o _).mono ?_;rintro e w' ⟨rfl,rfl⟩)
 go_ret;refine⟨?_,?_⟩
 ·have hl:q.toNat<qBN.length:=by show q.toNat<36;omega
  exact congrArg Ending.returned (hp.o hl)
 ·rfl
def qC4(f:Int->Bs)(zs:List Int):Nat->Bs
 |0=>[]
 |k+1=>qC4 f zs k++f (zs[k]?.getD 0)
theorem qDD(f:Int->Bs)(c:Nat)(hf:∀n,(f n).length<=c)(zs:List Int):∀k,(qC4 f zs k).length<=c*k
 |0=>by simp[qC4]
 |k+1=>by
  have:=qDD f c hf zs k;have:=hf (zs[k]?.getD 0);unfold qC4;rw[List.length_append,Nat.mul_succ];omega
theorem qBD(a b:Bs):(⟨a.toArray⟩:ByteArray)++⟨b.toArray⟩=⟨(a++b).toArray⟩:=by
 apply ByteArray.ext;rw[ByteArray.data_append];simp
def qKU:List Bs:=[[32],[10],[10,9]]
def qKm(n:Int):Bs:=qKU.getD (qAu (n.tdiv 29) 3).toNat []
def qB1(n:Int):Bs:=qD2 (qAu n 29).toNat++qKm n
theorem qGd(n m:Int)(h0:0<=n)(h1:n<m):qAu n m=n:=by
 unfold qAu;rw[if_neg (by omega),Int.emod_eq_of_lt h0 h1]
theorem qHX(n:Int):(qKm n).length<=2:=by
 unfold qKm;have h:=qAW (n.tdiv 29) 3 (by omega);generalize qAu (n.tdiv 29) 3=q at *;have hq:q=0\/q=1\/q=2:=by omega
 rcases hq with rfl|rfl|rfl<;>decide
theorem qEF(n:Int):(qB1 n).length<=19:=by
 unfold qB1;have:=qFV (qAu n 29).toNat;have:=qHX n;rw[List.length_append];omega
theorem qDg{P:Program}{md:Region.Mode}{ops:Array Oper}{Q:Exit->Act->World->Prop}{S S':World->Prop}(hS:∀w,S' w->S w):
 ∀(fuel:Nat) (listed:Array Bool) (a:Act) (w:World),wpAnyH P md ops Q S' fuel listed a w->wpAnyH P md ops Q S fuel listed a w
 |0,_,_,_,h=>h
 |fuel+1,_listed,_a,_w,h=>⟨h.1,fun i hi=>wpOp_mono (fun _ _ h3=>⟨hS _ h3.1,qDg hS fuel _ _ _ h3.2⟩) (h.2 i hi)⟩
theorem qI8(q:Int)(h0:0<=q)(h1:q<3)(w:World)(g:Nat)(hg:g=w.heap.size):
 (w.alloc (.cells #[.string ⟨#[32]⟩,.string ⟨#[10]⟩,.string ⟨#[10,9]⟩] 9)).cell? ⟨g,q.toNat,none⟩=some (.string ⟨(qKU.getD q.toNat []).toArray⟩):=by
 subst hg;rw[cell_of_row _ w.heap.size q.toNat _ 9 (0,0) (World.alloc_heap_new w _)];have hq:q=0\/q=1\/q=2:=by omega
 rcases hq with rfl|rfl|rfl<;>rfl
theorem qFa{P:Program}{md:Region.Mode}{ops:Array Oper}{Q:Exit->Act->World->Prop}{S S':World->Prop}{fuel:Nat}{listed:Array Bool}{a:Act}{w:World}(hS:∀w,S' w->S w)(h0:S' w)
 (h:S' w->wpAnyH P md ops Q S' fuel listed a w):wpAnyH P md ops Q S fuel listed a w:=qDg hS _ _ _ _ (h h0)
theorem qBf{P:Program}{ops:Array Oper}{Q:Exit->Act->World->Prop}{md:Region.Mode}{S:World->Prop}(i d:Nat){oi:Oper}{v:Value}{fuel:Nat}{listed:Array Bool}{tmps:Array Value}{ds:List Deferred}{w:World}(hi:ops[i]? =some oi)(hd:oi.dst=some d)
 (hs:Region.noSelect ops=true)(hf:Region.free md ops listed i=true)(hr:(Region.ready md ops listed).contains i=true)
 (hQ:∀c a w,Q (.panic c) (a.put oi.dst v) w->Q (.panic c) a w)(hw:Region.wanted oi (yielded ops tmps)=true)(hy:∀w,S w->(execOp (Act.eval ⟨tmps,ds⟩) oi).run P w=.ok (.value v) w)(hS:S w)
 (h:wpAnyH P md ops Q S fuel (listed.setIfInBounds i true) ⟨tmps.setIfInBounds d v,ds⟩ w):wpAnyH P md ops Q S (fuel+1) listed ⟨tmps,ds⟩ w:=
 wpAnyH_take hi hs hf hr hQ (Or.inl ⟨hw,hy⟩) hS (by rw[hd];exact h)
theorem qHK(b off cap:Nat)(zs:List Int)(len:Nat)(w:World)(hb:b<w.heap.size)(hc1:len<=cap)(hc2:cap<=9223372036854775807)
 (hc:Hid (∀j,j<len->w.cell? ⟨b,off+j,none⟩=some (.int .i64 (zs[j]?.getD 0))))(hr:Hid (∀j,j<len-> -9223372036854775808<=zs[j]?.getD 0/\zs[j]?.getD 0<=9223372036854775807)):
 Calls Tryz.prog 7 #[.slice (some ⟨b,off,none⟩) len cap] w fun e w'=>e=.returned (.string ⟨(qC4 qB1 zs (min len 24)).toArray⟩)/\Below w.heap.size w w':=by
 have hN:min len 24<=len/\min len 24<=24/\(len<24->min len 24=len)/\(24<=len->min len 24=24):=by omega
 have HN:=hZ hN;have hN1:=hN.1;have hN2:=hN.2.1;clear hN;generalize min len 24=N at *
 go_enter Tryz.func7,Tryz.ntmps7
 go_wp2
 go_loopw [3,4] (fun t i wr=>∃(k:Nat),k<=N/\i=.int .i64 k/\t=.string ⟨(qC4 qB1 zs k).toArray⟩/\Hid (Below w.heap.size w wr)) (fun _ i _=>len-(intOf i).toNat)
 case atStart=>exact⟨0,by omega,rfl,rfl,hZ (Below.refl _ _)⟩
 case round=>
  obtain⟨k,hk,rfl,rfl,hB⟩:=hrel;by_cases hlt:k<N
  ·have hcell:=(hB.o.cell (p:=⟨b,off+k,none⟩) hb).trans (hc.o k (by omega))
   have hrk:=hr.o k (by omega);have hwr:w.heap.size<=wr.heap.size:=hB.o.size;have h24:k<24:=by omega
   have hkl:k<len:=by omega
   have hk0:(0:Int)<=(k:Int):=by omega
   have hk1:(k:Int)<(len:Int):=by omega
   have hst:Hid (qC4 qB1 zs (k+1)=qC4 qB1 zs k++(qD2 (qAu (zs[k]?.getD 0) 29).toNat++qKU.getD (qAu ((zs[k]?.getD 0).tdiv 29) 3).toNat [])):=rfl;generalize zs[k]?.getD 0=z at *;have hq1:=qAW z 29 (by omega);have hq2:=qAW (z.tdiv 29) 3 (by omega);have hd1: -9223372036854775808<=z.tdiv 29/\z.tdiv 29<=9223372036854775807:=by
    rcases Int.le_total 0 z with h|h
    ·rw[Int.tdiv_eq_ediv_of_nonneg h];omega
    ·have:z= -(-z):=by omega
     rw[this,Int.neg_tdiv,Int.tdiv_eq_ediv_of_nonneg (by omega)];omega
   have Ha1:=hZ (fun w=>qBx z 29 w (by omega) (by omega) (by omega) (by omega));have Ha2:=hZ (fun w=>qBx (z.tdiv 29) 3 w (by omega) (by omega) (by omega) (by omega));have Hp:=hZ (fun w=>qJh (qAu z 29) w (by omega) (by omega));have hsp:qD2 (qAu (qAu z 29) 36).toNat=qD2 (qAu z 29).toNat:=by
    rw[qGd _ 36 hq1.1 (by omega)]
   rw[hsp]at Hp;clear hsp;have hl1:=qDD qB1 19 qEF zs k;have hl2:=qFV (qAu z 29).toNat;generalize qAu z 29=q1 at *;generalize qAu (z.tdiv 29) 3=q2 at *;generalize qD2 q1.toNat=r at *;generalize qC4 qB1 zs k=T at *;have hwd:IntKind.i64.wrap (z.tdiv 29)=z.tdiv 29:=IntWalk.i64_in _ hd1;have hbw:b<wr.heap.size:=by omega
   have hsp2:(qKU.getD q2.toNat []).length<=2:=by
    have hq:q2=0\/q2=1\/q2=2:=by omega
    rcases hq with rfl|rfl|rfl<;>decide
   have sepc:=qI8 q2 hq2.1 hq2.2;generalize qKU.getD q2.toNat []=sp at *;have hcat1:¬(9223372036854775807<T.length+r.length):=by omega
   have hcat2:¬(9223372036854775807<T.length+r.length+sp.length):=by omega
   go_wp2_with fail
   refine wp_region_held_drew (S:=fun w'=>w'.cell? ⟨b,off+k,none⟩=some (.int .i64 z)) (by kernel_rfl) (by simpa using hcell) (fun hHeld=> ?_);refine qBf 0 15 (v:= ?_) rfl rfl (by kernel_rfl) (by kernel_rfl) (by kernel_rfl) (fun _ _ _ h=>h) (by rfl) ?_ (by assumption) ?_;rotate_left
   ·(intro w hSw;go_simp;first|done|with_reducible rfl)
   simp only[sX1,sX2,sX3];refine qBf 1 16 (v:= ?_) rfl rfl (by kernel_rfl) (by kernel_rfl) (by kernel_rfl) (fun _ _ _ h=>h) (by rfl) ?_ (by assumption) ?_;rotate_left
   ·(intro w hSw;go_simp;first|done|with_reducible rfl)
   simp only[sX1,sX2,sX3];refine qBf 2 17 (v:= ?_) rfl rfl (by kernel_rfl) (by kernel_rfl) (by kernel_rfl) (fun _ _ _ h=>h) (by rfl) ?_ (by assumption) ?_;rotate_left
   ·(intro w hSw;go_simp;first|done|with_reducible rfl)
   simp only[sX1,sX2,sX3];refine qBf 3 18 (v:= ?_) rfl rfl (by kernel_rfl) (by kernel_rfl) (by kernel_rfl) (fun _ _ _ h=>h) (by rfl) ?_ (by assumption) ?_;rotate_left
   ·(intro w hSw;go_simp;first|done|with_reducible rfl)
   simp only[sX1,sX2,sX3];refine qBf 4 19 (v:= ?_) rfl rfl (by kernel_rfl) (by kernel_rfl) (by kernel_rfl) (fun _ _ _ h=>h) (by rfl) ?_ (by assumption) ?_;rotate_left
   ·(intro w hSw;go_simp;first|done|with_reducible rfl)
   simp only[sX1,sX2,sX3];refine qBf 9 24 (v:= ?_) rfl rfl (by kernel_rfl) (by kernel_rfl) (by kernel_rfl) (fun _ _ _ h=>h) (by rfl) ?_ (by assumption) ?_;rotate_left
   ·(intro w hSw;go_simp;first|done|with_reducible rfl)
   simp only[sX1,sX2,sX3];refine qBf 10 25 (v:= ?_) rfl rfl (by kernel_rfl) (by kernel_rfl) (by kernel_rfl) (fun _ _ _ h=>h) (by rfl) ?_ (by assumption) ?_;rotate_left
   ·(intro w hSw;go_simp;first|done|with_reducible rfl)
   simp only[sX1,sX2,sX3];refine qBf 11 26 (v:= ?_) rfl rfl (by kernel_rfl) (by kernel_rfl) (by kernel_rfl) (fun _ _ _ h=>h) (by rfl) ?_ (by assumption) ?_;rotate_left
   ·(intro w hSw;go_simp;first|done|with_reducible rfl)
   simp only[sX1,sX2,sX3];refine qBf 12 27 (v:= ?_) rfl rfl (by kernel_rfl) (by kernel_rfl) (by kernel_rfl) (fun _ _ _ h=>h) (by rfl) ?_ (by assumption) ?_;rotate_left
   ·(intro w hSw;go_simp;first|done|with_reducible rfl)
   simp only[sX1,sX2,sX3];refine qBf 13 28 (v:= ?_) rfl rfl (by kernel_rfl) (by kernel_rfl) (by kernel_rfl) (fun _ _ _ h=>h) (by rfl) ?_ (by assumption) ?_;rotate_left
   ·(intro w hSw;go_simp;first|done|with_reducible rfl)
   simp only[sX1,sX2,sX3];refine wpAnyH_ready (rs:=[5,8]) (by kernel_rfl) (by simp) ?_;refine AllReadyH.cons (i:=5) rfl (fun K hK=> ?_) ?_
   ·skip
    go_simp;refine(Ha1.o _).mono ?_;rintro e w' ⟨rfl,rfl⟩
    go_wp2_with fail
    refine hK.out _ _ ?_ (fun hHeld=> ?_)
    ·(first|exact hHeld|go_keep)
    clear hK K
    try simp only[Act.put,sX1,sX2,sX3]
    refine wpAnyH_ready (rs:=[6,8]) (by kernel_rfl) (by simp) ?_;refine AllReadyH.cons (i:=6) rfl (fun K hK=> ?_) ?_
    ·skip
     go_simp;refine(Hp.o _).mono ?_;rintro e w' ⟨rfl,rfl⟩
     go_wp2_with fail
     refine hK.out _ _ ?_ (fun hHeld=> ?_)
     ·(first|exact hHeld|go_keep)
     clear hK K
     try simp only[Act.put,sX1,sX2,sX3]
     refine qBf 7 22 (v:= ?_) rfl rfl (by kernel_rfl) (by kernel_rfl) (by kernel_rfl) (fun _ _ _ h=>h) (by rfl) ?_ (by assumption) ?_;rotate_left
     ·(intro w hSw;go_simp;first|done|with_reducible rfl)
     simp only[sX1,sX2,sX3];refine wpAnyH_ready (rs:=[8,14]) (by kernel_rfl) (by simp) ?_;refine AllReadyH.cons (i:=8) rfl (fun K hK=> ?_) ?_
     ·skip
      go_simp;refine hK.out _ _ ?_ (fun hHeld=> ?_)
      ·(first|exact hHeld|go_keep)
      clear hK K
      try simp only[Act.put,sX1,sX2,sX3]
      refine qFa (S':=fun w'=>w'.cell? ⟨b,off+k,none⟩=some (.int .i64 z)/\w'.cell? ⟨wr.heap.size+1,q2.toNat,none⟩=some (.string ⟨sp.toArray⟩)) (fun _ h=>h.1) ⟨hHeld,?_⟩ (fun hHeld=> ?_)
      ·exact sepc _ _ (by simp)
      refine wpAnyH_ready (rs:=[14]) (by kernel_rfl) (by simp) ?_;refine AllReadyH.cons (i:=14) rfl (fun K hK=> ?_) ?_
      ·skip
       go_simp;refine(Ha2.o _).mono ?_;rintro e w' ⟨rfl,rfl⟩
       go_wp2_with fail
       refine hK.out _ _ ?_ (fun hHeld=> ?_)
       ·(first|exact hHeld|go_keep)
       clear hK K
       try simp only[Act.put,sX1,sX2,sX3]
       refine qBf 15 30 (v:= ?_) rfl rfl (by kernel_rfl) (by kernel_rfl) (by kernel_rfl) (fun _ _ _ h=>h) (by rfl) ?_ (by assumption) ?_;rotate_left
       ·(intro w hSw;go_simp;first|done|with_reducible rfl)
       simp only[sX1,sX2,sX3];refine qBf 16 31 (v:= ?_) rfl rfl (by kernel_rfl) (by kernel_rfl) (by kernel_rfl) (fun _ _ _ h=>h) (by rfl) ?_ (by assumption) ?_;rotate_left
       ·(intro w hSw;go_simp;first|done|with_reducible rfl)
       simp only[sX1,sX2,sX3];refine qBf 17 32 (v:= ?_) rfl rfl (by kernel_rfl) (by kernel_rfl) (by kernel_rfl) (fun _ _ _ h=>h) (by rfl) ?_ (by assumption) ?_;rotate_left
       ·(intro w hSw;go_simp;first|done|with_reducible rfl)
       simp only[sX1,sX2,sX3];refine qBf 18 3 (v:= ?_) rfl rfl (by kernel_rfl) (by kernel_rfl) (by kernel_rfl) (fun _ _ _ h=>h) (by rfl) ?_ (by assumption) ?_;rotate_left
       ·(intro w hSw;go_simp;first|done|with_reducible rfl)
       simp only[sX1,sX2,sX3];refine wpAnyH_done (by kernel_rfl) ?_ _;clear hHeld
       go_wp2
       go_roundw
       case rel=>exact⟨k+1,by omega,by go_num,by rw[hst.o,qBD,qBD,List.append_assoc],hZ (((hB.o.alloc hwr _).alloc (by simp;omega) _).drew)⟩
       case measure=>simp[intOf];omega
      exact AllReadyH.nil
     refine AllReadyH.cons (i:=14) rfl (fun K hK=> ?_) ?_
     ·skip
      go_simp;refine(Ha2.o _).mono ?_;rintro e w' ⟨rfl,rfl⟩
      go_wp2_with fail
      refine hK.out _ _ ?_ (fun hHeld=> ?_)
      ·(first|exact hHeld|go_keep)
      clear hK K
      try simp only[Act.put,sX1,sX2,sX3]
      refine wpAnyH_ready (rs:=[8]) (by kernel_rfl) (by simp) ?_;refine AllReadyH.cons (i:=8) rfl (fun K hK=> ?_) ?_
      ·skip
       go_simp;refine hK.out _ _ ?_ (fun hHeld=> ?_)
       ·(first|exact hHeld|go_keep)
       clear hK K
       try simp only[Act.put,sX1,sX2,sX3]
       refine qFa (S':=fun w'=>w'.cell? ⟨b,off+k,none⟩=some (.int .i64 z)/\w'.cell? ⟨wr.heap.size+1,q2.toNat,none⟩=some (.string ⟨sp.toArray⟩)) (fun _ h=>h.1) ⟨hHeld,?_⟩ (fun hHeld=> ?_)
       ·exact sepc _ _ (by simp)
       refine qBf 15 30 (v:= ?_) rfl rfl (by kernel_rfl) (by kernel_rfl) (by kernel_rfl) (fun _ _ _ h=>h) (by rfl) ?_ (by assumption) ?_;rotate_left
       ·(intro w hSw;go_simp;first|done|with_reducible rfl)
       simp only[sX1,sX2,sX3];refine qBf 16 31 (v:= ?_) rfl rfl (by kernel_rfl) (by kernel_rfl) (by kernel_rfl) (fun _ _ _ h=>h) (by rfl) ?_ (by assumption) ?_;rotate_left
       ·(intro w hSw;go_simp;first|done|with_reducible rfl)
       simp only[sX1,sX2,sX3];refine qBf 17 32 (v:= ?_) rfl rfl (by kernel_rfl) (by kernel_rfl) (by kernel_rfl) (fun _ _ _ h=>h) (by rfl) ?_ (by assumption) ?_;rotate_left
       ·(intro w hSw;go_simp;first|done|with_reducible rfl)
       simp only[sX1,sX2,sX3];refine qBf 18 3 (v:= ?_) rfl rfl (by kernel_rfl) (by kernel_rfl) (by kernel_rfl) (fun _ _ _ h=>h) (by rfl) ?_ (by assumption) ?_;rotate_left
       ·(intro w hSw;go_simp;first|done|with_reducible rfl)
       simp only[sX1,sX2,sX3];refine wpAnyH_done (by kernel_rfl) ?_ _;clear hHeld
       go_wp2
       go_roundw
       case rel=>exact⟨k+1,by omega,by go_num,by rw[hst.o,qBD,qBD,List.append_assoc],hZ (((hB.o.alloc hwr _).alloc (by simp;omega) _).drew)⟩
       case measure=>simp[intOf];omega
      exact AllReadyH.nil
     exact AllReadyH.nil
    refine AllReadyH.cons (i:=8) rfl (fun K hK=> ?_) ?_
    ·skip
     go_simp;refine hK.out _ _ ?_ (fun hHeld=> ?_)
     ·(first|exact hHeld|go_keep)
     clear hK K
     try simp only[Act.put,sX1,sX2,sX3]
     refine qFa (S':=fun w'=>w'.cell? ⟨b,off+k,none⟩=some (.int .i64 z)/\w'.cell? ⟨wr.heap.size,q2.toNat,none⟩=some (.string ⟨sp.toArray⟩)) (fun _ h=>h.1) ⟨hHeld,?_⟩ (fun hHeld=> ?_)
     ·exact sepc _ _ (by simp)
     refine wpAnyH_ready (rs:=[6]) (by kernel_rfl) (by simp) ?_;refine AllReadyH.cons (i:=6) rfl (fun K hK=> ?_) ?_
     ·skip
      go_simp;refine(Hp.o _).mono ?_;rintro e w' ⟨rfl,rfl⟩
      go_wp2_with fail
      refine hK.out _ _ ?_ (fun hHeld=> ?_)
      ·(first|exact hHeld|go_keep)
      clear hK K
      try simp only[Act.put,sX1,sX2,sX3]
      refine qBf 7 22 (v:= ?_) rfl rfl (by kernel_rfl) (by kernel_rfl) (by kernel_rfl) (fun _ _ _ h=>h) (by rfl) ?_ (by assumption) ?_;rotate_left
      ·(intro w hSw;go_simp;first|done|with_reducible rfl)
      simp only[sX1,sX2,sX3];refine wpAnyH_ready (rs:=[14]) (by kernel_rfl) (by simp) ?_;refine AllReadyH.cons (i:=14) rfl (fun K hK=> ?_) ?_
      ·skip
       go_simp;refine(Ha2.o _).mono ?_;rintro e w' ⟨rfl,rfl⟩
       go_wp2_with fail
       refine hK.out _ _ ?_ (fun hHeld=> ?_)
       ·(first|exact hHeld|go_keep)
       clear hK K
       try simp only[Act.put,sX1,sX2,sX3]
       refine qBf 15 30 (v:= ?_) rfl rfl (by kernel_rfl) (by kernel_rfl) (by kernel_rfl) (fun _ _ _ h=>h) (by rfl) ?_ (by assumption) ?_;rotate_left
       ·(intro w hSw;go_simp;first|done|with_reducible rfl)
       simp only[sX1,sX2,sX3];refine qBf 16 31 (v:= ?_) rfl rfl (by kernel_rfl) (by kernel_rfl) (by kernel_rfl) (fun _ _ _ h=>h) (by rfl) ?_ (by assumption) ?_;rotate_left
       ·(intro w hSw;go_simp;first|done|with_reducible rfl)
       simp only[sX1,sX2,sX3];refine qBf 17 32 (v:= ?_) rfl rfl (by kernel_rfl) (by kernel_rfl) (by kernel_rfl) (fun _ _ _ h=>h) (by rfl) ?_ (by assumption) ?_;rotate_left
       ·(intro w hSw;go_simp;first|done|with_reducible rfl)
       simp only[sX1,sX2,sX3];refine qBf 18 3 (v:= ?_) rfl rfl (by kernel_rfl) (by kernel_rfl) (by kernel_rfl) (fun _ _ _ h=>h) (by rfl) ?_ (by assumption) ?_;rotate_left
       ·(intro w hSw;go_simp;first|done|with_reducible rfl)
       simp only[sX1,sX2,sX3];refine wpAnyH_done (by kernel_rfl) ?_ _;clear hHeld
       go_wp2
       go_roundw
       case rel=>exact⟨k+1,by omega,by go_num,by rw[hst.o,qBD,qBD,List.append_assoc],hZ (((hB.o.alloc hwr _).alloc (by simp;omega) _).drew)⟩
       case measure=>simp[intOf];omega
      exact AllReadyH.nil
     exact AllReadyH.nil
    exact AllReadyH.nil
   refine AllReadyH.cons (i:=8) rfl (fun K hK=> ?_) ?_
   ·skip
    go_simp;refine hK.out _ _ ?_ (fun hHeld=> ?_)
    ·(first|exact hHeld|go_keep)
    clear hK K
    try simp only[Act.put,sX1,sX2,sX3]
    refine qFa (S':=fun w'=>w'.cell? ⟨b,off+k,none⟩=some (.int .i64 z)/\w'.cell? ⟨wr.heap.size,q2.toNat,none⟩=some (.string ⟨sp.toArray⟩)) (fun _ h=>h.1) ⟨hHeld,?_⟩ (fun hHeld=> ?_)
    ·exact sepc _ _ (by simp)
    refine wpAnyH_ready (rs:=[5]) (by kernel_rfl) (by simp) ?_;refine AllReadyH.cons (i:=5) rfl (fun K hK=> ?_) ?_
    ·skip
     go_simp;refine(Ha1.o _).mono ?_;rintro e w' ⟨rfl,rfl⟩
     go_wp2_with fail
     refine hK.out _ _ ?_ (fun hHeld=> ?_)
     ·(first|exact hHeld|go_keep)
     clear hK K
     try simp only[Act.put,sX1,sX2,sX3]
     refine wpAnyH_ready (rs:=[6]) (by kernel_rfl) (by simp) ?_;refine AllReadyH.cons (i:=6) rfl (fun K hK=> ?_) ?_
     ·skip
      go_simp;refine(Hp.o _).mono ?_;rintro e w' ⟨rfl,rfl⟩
      go_wp2_with fail
      refine hK.out _ _ ?_ (fun hHeld=> ?_)
      ·(first|exact hHeld|go_keep)
      clear hK K
      try simp only[Act.put,sX1,sX2,sX3]
      refine qBf 7 22 (v:= ?_) rfl rfl (by kernel_rfl) (by kernel_rfl) (by kernel_rfl) (fun _ _ _ h=>h) (by rfl) ?_ (by assumption) ?_;rotate_left
      ·(intro w hSw;go_simp;first|done|with_reducible rfl)
      simp only[sX1,sX2,sX3];refine wpAnyH_ready (rs:=[14]) (by kernel_rfl) (by simp) ?_;refine AllReadyH.cons (i:=14) rfl (fun K hK=> ?_) ?_
      ·skip
       go_simp;refine(Ha2.o _).mono ?_;rintro e w' ⟨rfl,rfl⟩
       go_wp2_with fail
       refine hK.out _ _ ?_ (fun hHeld=> ?_)
       ·(first|exact hHeld|go_keep)
       clear hK K
       try simp only[Act.put,sX1,sX2,sX3]
       refine qBf 15 30 (v:= ?_) rfl rfl (by kernel_rfl) (by kernel_rfl) (by kernel_rfl) (fun _ _ _ h=>h) (by rfl) ?_ (by assumption) ?_;rotate_left
       ·(intro w hSw;go_simp;first|done|with_reducible rfl)
       simp only[sX1,sX2,sX3];refine qBf 16 31 (v:= ?_) rfl rfl (by kernel_rfl) (by kernel_rfl) (by kernel_rfl) (fun _ _ _ h=>h) (by rfl) ?_ (by assumption) ?_;rotate_left
       ·(intro w hSw;go_simp;first|done|with_reducible rfl)
       simp only[sX1,sX2,sX3];refine qBf 17 32 (v:= ?_) rfl rfl (by kernel_rfl) (by kernel_rfl) (by kernel_rfl) (fun _ _ _ h=>h) (by rfl) ?_ (by assumption) ?_;rotate_left
       ·(intro w hSw;go_simp;first|done|with_reducible rfl)
       simp only[sX1,sX2,sX3];refine qBf 18 3 (v:= ?_) rfl rfl (by kernel_rfl) (by kernel_rfl) (by kernel_rfl) (fun _ _ _ h=>h) (by rfl) ?_ (by assumption) ?_;rotate_left
       ·(intro w hSw;go_simp;first|done|with_reducible rfl)
       simp only[sX1,sX2,sX3];refine wpAnyH_done (by kernel_rfl) ?_ _;clear hHeld
       go_wp2
       go_roundw
       case rel=>exact⟨k+1,by omega,by go_num,by rw[hst.o,qBD,qBD,List.append_assoc],hZ (((hB.o.alloc hwr _).alloc (by simp;omega) _).drew)⟩
       case measure=>simp[intOf];omega
      exact AllReadyH.nil
     exact AllReadyH.nil
    exact AllReadyH.nil
   exact AllReadyH.nil
  ·obtain rfl:k=N:=by omega
   by_cases hlen:len<24
   ·obtain rfl:k=len:=HN.o.2.2.1 hlen
    clear hlt
    go_wp2
    go_ret;exact⟨rfl,hB.o⟩
   ·have hk24:k=24:=HN.o.2.2.2 (by omega)
    subst hk24;clear hlt
    go_wp2
    all_goals (go_ret;exact⟨rfl,hB.o⟩)
def qB7(zs:List Int)(len:Nat):Bs:=qC4 qB1 zs (min len 24)
theorem qFD(zs:List Int)(len:Nat):(qB7 zs len).length<=456:=by
 unfold qB7;have:=qDD qB1 19 qEF zs (min len 24);omega
theorem qIS(a:Option Addr)(cap:Nat)(_hc:cap<=9223372036854775807)(w:World)(zs:List Int):
 Calls Tryz.prog 7 #[.slice a 0 cap] w fun e w'=>e=.returned (.string ⟨(qB7 zs 0).toArray⟩)/\w=w':=by
 go_enter Tryz.func7,Tryz.ntmps7
 go_wp2
 go_loop [3,4] (fun v i=>v=.string ⟨#[]⟩/\i=.int .i64 0) (fun _ _=>0)
 case atStart=>exact⟨rfl,rfl⟩
 case round=>
  obtain⟨rfl,rfl⟩:=hrel
  go_wp2
  go_ret;exact⟨rfl,rfl⟩
theorem qIT(v:Value)(zs:List Int)(len:Nat)(w:World)(h:qBr w v zs len):
 Calls Tryz.prog 7 #[v] w fun e w'=>e=.returned (.string ⟨(qB7 zs len).toArray⟩)/\Below w.heap.size w w':=by
 rcases h with ⟨a,cap,rfl,rfl,hcap⟩|⟨b,off,cap,rfl,hlt,h1,h2,hc,hr⟩
 ·refine(qIS a cap hcap w zs).mono ?_
  rintro e w' ⟨rfl,rfl⟩;exact⟨rfl,Below.refl _ _⟩
 ·exact qHK b off cap zs len w hlt h1 h2 hc hr
theorem qKR(x:Int)(h1: -9223372036854775808<=x)(h2:x<=9223372036854775807): -9223372036854775808<=x.tdiv 28/\x.tdiv 28<=9223372036854775807:=by
 rcases Int.le_total 0 x with h|h
 ·rw[Int.tdiv_eq_ediv_of_nonneg h];omega
 ·have e:x.tdiv 28= -((-x).tdiv 28):=by rw[Int.neg_tdiv];omega
  rw[e,Int.tdiv_eq_ediv_of_nonneg (by omega)];omega
theorem qEm(v:Value)(zs:List Int)(len:Nat)(at_ how other:Int)(w:World)(hl:qBr w v zs len)(ha1: -9223372036854775808<=at_)(ha2:at_<=9223372036854775807)(hh1: -9223372036854775808<=how)(hh2:how<=9223372036854775807)(ho1: -9223372036854775808<=other)(ho2:other<=9223372036854775807)(hK:qBa w)(hP:qCp w):
 Calls Tryz.prog 3 #[v,.int .i64 at_,.int .i64 how,.int .i64 other] w fun e w'=>e=.returned (.bool true)/\Below w.heap.size w w':=by
 obtain⟨hGl,hGd⟩:=qHb (qAH zs len);have hTG:=qJ4 (fun i=>qC2 zs len i 6) (qFx (pkN zs len)) 0 hGd;have hTL:=qIq (fun i=>qC2 zs len i 6) (qFx (pkN zs len)) 0;have htl:=qFH (txT zs len) hTG;have hx2:(txT zs len).length<=5:=by unfold txT;omega
 have HT0:=hZ (qH2 v zs len w hl);obtain⟨T,hT⟩:=eX ((⟨(qDk (txT zs len)).toArray⟩:ByteArray));have htz:T.size<=3000:=by rw[<-hT];show(qDk (txT zs len)).length<=_;omega
 rw[hT]at HT0;have hcl:=qFD zs len;have HCl:=hZ (fun w h=>qIT v zs len w h);obtain⟨C,hC⟩:=eX ((⟨(qB7 zs len).toArray⟩:ByteArray));have hcz:C.size<=3000:=by rw[<-hC];show(qB7 zs len).length<=_;omega
 rw[hC]at HCl;obtain⟨hq1,hq2⟩:=qKR how hh1 hh2;have HSp:=hZ (fun w=>qER T at_ how w (by omega) ha1 ha2 hh1 hh2);have hwr:IntKind.i64.wrap (how.tdiv 28)=how.tdiv 28:=IntWalk.i64_in _ ⟨hq1,hq2⟩;obtain⟨hw2,hhw⟩:=eX (how.tdiv 28);rw[hhw]at hq1 hq2 hwr;have HSq:=hZ (fun(r:ByteArray) (hr:r.size<=4000) w=>qER r other hw2 w (by omega) ho1 ho2 hq1 hq2);have HTz:=hZ htz;have HCz:=hZ hcz;have HI:=hZ hl;have HK:=hZ hK;have HP:=hZ hP;clear hl ha1 ha2 hK hP hGl hGd hTG hTL htl hx2 hT htz hcl hC hcz ho1 ho2
 go_enter Tryz.func3,Tryz.ntmps3
 go_wp2_with fail
 refine HT0.o.mono ?_;rintro e w1 ⟨rfl,hB⟩;have HB1:=hZ hB;replace HI:=hZ (HI.o.below (Nat.le_refl _) hB);clear hB HT0
 go_wp2_with fail
 refine(HSp.o w1).mono ?_;rintro e w2 ⟨⟨r,rfl,hr⟩,hB⟩;have HB2:=hZ (HB1.o.trans (hB.mono HB1.o.size));replace HI:=hZ (HI.o.below (Nat.le_refl _) hB);have HR:=hZ (show r.size<=4000 by have:=HTz.o;omega);clear hB HB1 hr HSp
 go_wp2_with fail
 refine(qCT T w2 (by have:=HTz.o;omega) (HK.o.below HB2.o HK.o.lt)).mono ?_;rintro e w3 ⟨rfl,hB⟩;have HB3:=hZ (HB2.o.trans (hB.mono HB2.o.size));replace HI:=hZ (HI.o.below (Nat.le_refl _) hB);clear hB HB2
 go_wp2_with fail
 refine(qCT r w3 (by have:=HR.o;omega) (HK.o.below HB3.o HK.o.lt)).mono ?_;rintro e w4 ⟨rfl,hB⟩;have HB4:=hZ (HB3.o.trans (hB.mono HB3.o.size));replace HI:=hZ (HI.o.below (Nat.le_refl _) hB);clear hB HB3
 go_wp2_with fail
 refine(HSq.o r HR.o w4).mono ?_;rintro e w5 ⟨⟨q,rfl,hq⟩,hB⟩;have HB5:=hZ (HB4.o.trans (hB.mono HB4.o.size));replace HI:=hZ (HI.o.below (Nat.le_refl _) hB);have HQ:=hZ (show q.size<=5000 by have:=HR.o;omega);clear hB HB4 hq HSq
 go_wp2_with fail
 refine(qCT q w5 (by have:=HQ.o;omega) (HK.o.below HB5.o HK.o.lt)).mono ?_;rintro e w6 ⟨rfl,hB⟩;have HB6:=hZ (HB5.o.trans (hB.mono HB5.o.size));replace HI:=hZ (HI.o.below (Nat.le_refl _) hB);clear hB HB5
 go_wp2_with fail
 refine(HCl.o w6 HI.o).mono ?_;rintro e w7 ⟨rfl,hB⟩;have HB7:=hZ (HB6.o.trans (hB.mono HB6.o.size));clear hB HB6 HI
 go_wp2_with fail
 refine(qCT C w7 (by have:=HCz.o;omega) (HK.o.below HB7.o HK.o.lt)).mono ?_;rintro e w8 ⟨rfl,hB⟩;have HB8:=hZ (HB7.o.trans (hB.mono HB7.o.size));clear hB HB7
 go_wp2_with fail
 refine(qIr w8 (HK.o.below HB8.o HK.o.lt) (HP.o.below HB8.o HP.o.lt)).mono ?_;rintro e w9 ⟨rfl,hB⟩;have HB9:=hZ (HB8.o.trans (hB.mono HB8.o.size));clear hB HB8
 go_wp2_with fail
 go_ret;exact⟨rfl,HB9.o⟩
end Go.Proofs.YtpmnbcdjoomgcaaGreatDoor
