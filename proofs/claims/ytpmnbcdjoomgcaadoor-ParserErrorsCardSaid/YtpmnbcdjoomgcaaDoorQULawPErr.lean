/- The law ParserErrors: its walk. -/
import Derived.Test.YtpmnbcdjoomgcaaDoorQUPGe1
import Derived.Test.YtpmnbcdjoomgcaaDoorQUPTx3
import Derived.Test.YtpmnbcdjoomgcaaDoorQUPText
import Derived.Test.YtpmnbcdjoomgcaaDoorQUGSeq
import Derived.Test.YtpmnbcdjoomgcaaDoorQUPGoo2
import Derived.Test.YtpmnbcdjoomgcaaDoorQUPTx7
set_option linter.unusedVariables false
set_option linter.unusedSimpArgs false
set_option maxHeartbeats 4000000
set_option maxRecDepth 100000
namespace Go.Proofs.YtpmnbcdjoomgcaaDoor
open Go.RowKit
def qL1:List Bs:=[[32,53,32],[32,97,32],[32,59,32],[32,44,32],[32,58,32],[32,43,32],[32,105,116,101,109,32],[32,114,117,108,101,32],[32,111,98,106,101,99,116,32],[32,119,101,97,114,32,50,32],[32,108,101,118,101,108,32,51,32],[32,116,97,107,101,32,49,32,120,32],[32,111,102,32],[32,98,105,110,100,32,103,101,116,32],[45],[32,116,105,109,101,32],[32,57,57,57,57,57,57,57,57,57,57,57,57,57,57,32],[32,35,32],[10],[32,99,104,97,110,99,101,32]]
def qLG:List Value:=qL1.map fun s=> .string ⟨s.toArray⟩
theorem qLK(n:Nat)(h:n<20):∃x:ByteArray,qLG[n]? =some (.string x)/\x.size<=20:=by
 have:∀i:Fin 20,((qL1.getD i.1 []).length<=20):=by decide +kernel
 have h2:n<qL1.length:=h;refine⟨⟨(qL1.getD n []).toArray⟩,?_,this ⟨n,h⟩⟩;unfold qLG;rw[List.getElem?_map,List.getD_eq_getElem?_getD,List.getElem?_eq_getElem h2];rfl
theorem qHS(s:ByteArray)(at_ how:Int)(w:World)(hs:s.size<=1000000)(h1: -9223372036854775808<=at_)(h2:at_<=9223372036854775807)(h3: -9223372036854775808<=how)(h4:how<=9223372036854775807):
 Calls Tryd.prog 25 #[.string s,.int .i64 at_,.int .i64 how] w fun e w'=>(∃r:ByteArray,e=.returned (.string r)/\r.size<=s.size+20)/\Below w.heap.size w w':=by
 obtain⟨wl,hwl⟩:=eX (w.alloc (.cells qLG.toArray 9));have hBl:Below w.heap.size w wl:=by rw[<-hwl];exact qAa _ _
 have hcx:∀n,wl.cell? ⟨w.heap.size,n,none⟩=qLG[n]? :=fun n=>by
  rw[<-hwl,cell_of_row (w.alloc (.cells qLG.toArray 9)) w.heap.size n qLG.toArray 9 (0,0) (heap_alloc_new w _)];simp
 have HA1:=hZ (fun w=>qCR at_ ((s.size:Int)+1) w h1 h2 (by omega) (by omega));have HA2:=hZ (fun w=>qCR how 28 w h3 h4 (by omega) (by omega));have hr1:=qB1 at_ ((s.size:Int)+1) (by omega);have hr2:=qB1 how 28 (by omega);obtain⟨k,hk⟩:∃k:Nat,qA4 at_ ((s.size:Int)+1)=k:=⟨(qA4 at_ ((s.size:Int)+1)).toNat,by omega⟩;obtain⟨n,hn⟩:∃k:Nat,qA4 how 28=k:=⟨(qA4 how 28).toNat,by omega⟩;rw[hk]at hr1 HA1;rw[hn]at hr2 HA2;have hk1:k<=s.size:=by omega
 have hn1:n<28:=by omega
 have HBl:=hZ hBl;have HCx:=hZ hcx;clear hr1 hr2 hk hn h1 h2 h3 h4 hBl hcx
 go_enter Tryd.func25,Tryd.ntmps25
 go_wp2_with fail
 refine(HA1.o _).mono ?_;rintro e w9 ⟨rfl,hw9⟩;subst hw9
 go_wp2_with fail
 refine(HA2.o _).mono ?_;rintro e w9 ⟨rfl,hw9⟩;subst hw9;have hwl2:w.alloc (.cells #[.string ⟨#[32,53,32]⟩,.string ⟨#[32,97,32]⟩,.string ⟨#[32,59,32]⟩,.string ⟨#[32,44,32]⟩,.string ⟨#[32,58,32]⟩,.string ⟨#[32,43,32]⟩,.string ⟨#[32,105,116,101,109,32]⟩,.string ⟨#[32,114,117,108,101,32]⟩,.string ⟨#[32,111,98,106,101,99,116,32]⟩,.string ⟨#[32,119,101,97,114,32,50,32]⟩,.string ⟨#[32,108,101,118,101,108,32,51,32]⟩,.string ⟨#[32,116,97,107,101,32,49,32,120,32]⟩,.string ⟨#[32,111,102,32]⟩,.string ⟨#[32,98,105,110,100,32,103,101,116,32]⟩,.string ⟨#[45]⟩,.string ⟨#[32,116,105,109,101,32]⟩,.string ⟨#[32,57,57,57,57,57,57,57,57,57,57,57,57,57,57,32]⟩,.string ⟨#[32,35,32]⟩,.string ⟨#[10]⟩,.string ⟨#[32,99,104,97,110,99,101,32]⟩] 9)=wl:=hwl;rw[hwl2];obtain⟨b,hb⟩:=eX w.heap.size;rw[hb]at HCx HBl ⊢;by_cases hc:n<20
 ·obtain⟨x,hx,hx20⟩:=qLK n hc
  have c1:wl.cell? ⟨b,n,none⟩=some (.string x):=(HCx.o n).trans hx;have hc1:(n:Int)<20:=by omega
  have hn0:(0:Int)<=(n:Int):=by omega
  clear hwl hwl2 hx;have e1:(s.extract 0 k).size=k:=by rw[ByteArray.size_extract];omega
  have e2:(s.extract k s.size).size=s.size-k:=by rw[ByteArray.size_extract];omega
  have s1:¬9223372036854775807<k+x.size:=by omega
  have s2:¬9223372036854775807<k+x.size+(s.size-k):=by omega
  have hk1i:(k:Int)<=(s.size:Int):=by omega
  have hk0:(0:Int)<=(k:Int):=by omega
  obtain⟨wd,hwd⟩:=eX wl.drew;have hBd:Below wl.heap.size wl wd:=by rw[<-hwd];exact qAc _
  have hsz:b<=wl.heap.size:=by have h9:=HBl.o.size;omega
  have HBd:Hid (Below b w wd):=hZ (HBl.o.trans (hBd.mono hsz));clear hBd
  go_wp2_with fail
  refine qAr [12] (fun W=>W.cell? ⟨b,n,none⟩=some (.string x)) (by kernel_rfl) (c1) (fun hHeld=> ?_);rw[hwd]at hHeld ⊢;clear hwd c1;refine pU 0 22 ?_;refine pU 1 23 ?_;refine pU 2 24 ?_;refine pU 3 25 ?_;refine pU 4 26 ?_;refine pU 5 27 ?_;refine qAb 6 28 (v:= ?_) rfl rfl (by kernel_rfl) (by kernel_rfl) (by kernel_rfl) (by kernel_rfl) (by kernel_rfl) (fun _ _ _ h=>h) (by rfl) ?_ (by assumption) ?_;rotate_left
  ·(intro w hSw;go_simp;first|done|with_reducible rfl)
  simp only[sX1,sX2,sX3];refine pU 8 30 ?_;refine pU 9 31 ?_;refine pU 10 32 ?_;refine pU 7 29 ?_;refine pU 11 33 ?_;refine lU 12 fun K hK=> ?_;go_simp;refine hK.out _ _ ?_;clear hK K
  try simp only[Act.put,sX1,sX2,sX3]
  refine dU ?_;clear hHeld
  go_wp2_with fail
  go_ret;refine⟨⟨_,rfl,?_⟩,by rw[hb];exact HBd.o⟩;rw[ByteArray.size_append,ByteArray.size_append,e1,e2];omega
 ·have hc1:¬(n:Int)<20:=by omega
  clear hwl hwl2;obtain⟨wd,hwd⟩:=eX wl.drew;have hBd:Below wl.heap.size wl wd:=by rw[<-hwd];exact qAc _
  have hsz:b<=wl.heap.size:=by have h9:=HBl.o.size;omega
  have HBd:Hid (Below b w wd):=hZ (HBl.o.trans (hBd.mono hsz));obtain⟨j,hj⟩:=eX (n%4);have hj4:j<4:=by omega
  have hmi:(n:Int).tmod 4=(j:Int):=by rw[<-hj];push_cast;exact Int.tmod_eq_emod_of_nonneg (by omega)
  obtain⟨q,hq⟩:=eX (min s.size (k+1+j));have hqi:min (s.size:Int) ((k:Int)+1+(j:Int))=(q:Int):=by omega
  have hw1:IntKind.i64.wrap ((k:Int)+1)=(k:Int)+1:=IntWalk.i64_in _ (by omega);have hw2:IntKind.i64.wrap ((k:Int)+1+(j:Int))=(k:Int)+1+(j:Int):=IntWalk.i64_in _ (by omega);have hqs:q<=s.size:=by omega
  have hq1:(q:Int)<=(s.size:Int):=by omega
  have hq0:(0:Int)<=(q:Int):=by omega
  have hk1i:(k:Int)<=(s.size:Int):=by omega
  have hk0:(0:Int)<=(k:Int):=by omega
  have e1:(s.extract 0 k).size=k:=by rw[ByteArray.size_extract];omega
  have e2:(s.extract q s.size).size=s.size-q:=by rw[ByteArray.size_extract];omega
  have s3:¬9223372036854775807<k+(s.size-q):=by omega
  clear hBd hj hq
  go_wp2_with fail
  refine qAr [14] (fun W=>True) (by kernel_rfl) (trivial) (fun hHeld=> ?_);rw[hwd];clear hwd;refine pU 0 34 ?_;refine pU 1 35 ?_;refine pU 2 36 ?_;refine pU 3 37 ?_;refine pU 4 38 ?_;refine qAb 5 39 (v:= ?_) rfl rfl (by kernel_rfl) (by kernel_rfl) (by kernel_rfl) (by kernel_rfl) (by kernel_rfl) (fun _ _ _ h=>h) (by rfl) ?_ (by assumption) ?_;rotate_left
  ·(intro w hSw;go_simp;first|done|with_reducible rfl)
  simp only[sX1,sX2,sX3];refine pU 6 40 ?_;refine pU 7 41 ?_;refine pU 8 42 ?_;refine pU 9 43 ?_;refine pU 10 44 ?_;refine qAb 11 45 (v:= ?_) rfl rfl (by kernel_rfl) (by kernel_rfl) (by kernel_rfl) (by kernel_rfl) (by kernel_rfl) (fun _ _ _ h=>h) (by rfl) ?_ (by assumption) ?_;rotate_left
  ·(intro w hSw;go_simp;first|done|with_reducible rfl)
  simp only[sX1,sX2,sX3];refine pU 12 46 ?_;refine pU 13 47 ?_;refine lU 14 fun K hK=> ?_;go_simp;refine hK.out _ _ ?_;clear hK K
  try simp only[Act.put,sX1,sX2,sX3]
  refine dU ?_;clear hHeld
  go_wp2_with fail
  go_ret;refine⟨⟨_,rfl,?_⟩,by rw[hb];exact HBd.o⟩;rw[ByteArray.size_append,e1,e2];omega
theorem qGD:∀(l:Bs) (cm:Bool) (c:UInt8) (r:Bs) (j:Nat),sk cm l=c::r->sk cm (l.take (l.length-(c::r).length+(j+1)))=(c::r).take (j+1)
 |[],_,_,_,_,h=>by cases h
 |d::l,cm,c,r,j,h=>by
  rw[qB3]at h;by_cases hs:nc cm d=false/\cl d≠0
  ·rw[if_pos hs]at h
   obtain⟨rfl,rfl⟩:d=c/\l=r:=by simpa using h
   rw[Nat.sub_self,Nat.zero_add,List.take_succ_cons,qB3,if_pos hs]
  ·rw[if_neg hs]at h
   have hle:(c::r).length<=l.length:=by rw[<-h];exact qC0 _ _
   rw[List.length_cons,show l.length+1-(c::r).length+(j+1)=(l.length-(c::r).length+(j+1))+1 by omega,List.take_succ_cons,qB3,if_neg hs];exact qGD l _ c r j h
theorem qB2(f:UInt8->Bool):∀(p:Bs) (m:Nat),(p.take ((p.takeWhile f).length+m)).takeWhile f=p.takeWhile f
 |[],_=>by simp
 |c::p,m=>by
  rw[List.takeWhile_cons];by_cases h:f c=true
  ·rw[if_pos h,List.length_cons,show(p.takeWhile f).length+1+m=((p.takeWhile f).length+m)+1 by omega,List.take_succ_cons,List.takeWhile_cons,if_pos h,qB2 f p m]
  ·rw[if_neg h]
   cases m with
   |zero=>rfl
   |succ m=>rw[List.length_nil,Nat.zero_add,List.take_succ_cons,List.takeWhile_cons,if_neg h]
theorem qGC(c:UInt8)(p:Bs)(m:Nat)(h0:0<tl (c::p)):tl ((c::p).take (tl (c::p)+m))=tl (c::p):=by
 by_cases a1:cl c=1
 ·have e:tl (c::p)=(p.takeWhile wb).length+1:=by rw[tl,if_pos a1,Nat.add_comm]
  rw[e,show(p.takeWhile wb).length+1+m=((p.takeWhile wb).length+m)+1 by omega,List.take_succ_cons,tl,if_pos a1,qB2,Nat.add_comm]
 ·by_cases a2:cl c=2
  ·have e:tl (c::p)=(p.takeWhile db).length+1:=by rw[tl,if_neg a1,if_pos a2,Nat.add_comm]
   rw[e,show(p.takeWhile db).length+1+m=((p.takeWhile db).length+m)+1 by omega,List.take_succ_cons,tl,if_neg a1,if_pos a2,qB2,Nat.add_comm]
  ·by_cases a4:cl c=4
   ·have e:tl (c::p)=1:=by rw[tl,if_neg a1,if_neg a2,if_pos a4]
    rw[e,Nat.add_comm,List.take_succ_cons,tl,if_neg a1,if_neg a2,if_pos a4]
   ·by_cases a6:cl c=6
    ·by_cases h:p.head? =some 62
     ·have e:tl (c::p)=2:=by rw[tl,if_neg a1,if_neg a2,if_neg a4,if_pos a6,if_pos h]
      cases p with
      |nil=>simp at h
      |cons d p=>
       simp at h;subst h;rw[e,show 2+m=(m+1)+1 by omega,List.take_succ_cons,List.take_succ_cons,tl,if_neg a1,if_neg a2,if_neg a4,if_pos a6,if_pos (show(62::p.take m).head? =some 62 from rfl)]
     ·rw[tl,if_neg a1,if_neg a2,if_neg a4,if_pos a6,if_neg h]at h0;omega
    ·rw[tl,if_neg a1,if_neg a2,if_neg a4,if_neg a6]at h0;omega
theorem qI8{a:Nat}{c:UInt8}{p:Bs}{t:Tok}(m:Nat)(h:nx a (c::p)=.ok t):nx a ((c::p).take (tl (c::p)+m))=.ok t:=by
 obtain⟨h0,htx,_⟩:=qEG h;have htl:=qGC c p m h0;obtain⟨j,hj⟩:∃j,tl (c::p)+m=j+1:=⟨tl (c::p)+m-1,by omega⟩;rw[hj,List.take_succ_cons]at htl ⊢;have htake:(c::p.take j).take (tl (c::p))=(c::p).take (tl (c::p)):=by
  rw[<-List.take_succ_cons,<-hj,List.take_take,Nat.min_eq_left (by omega)]
 unfold nx at h ⊢;simp only[htl,htake]at h ⊢;exact h
theorem qLk{a:Nat}{l:Bs}{t:Tok}(h:nx a l=.ok t):(t.text==[59])=qFT t:=by
 have hk:t.text=[59]->t.kind=2:=by
  intro e;cases l with
  |nil=>simp[nx]at h
  |cons c r=>
   obtain⟨h0,htx,-⟩:=qEG h;rw[e]at htx;obtain⟨j,hj⟩:∃j,tl (c::r)=j+1:=⟨tl (c::r)-1,by omega⟩;rw[hj,List.take_succ_cons]at htx;obtain⟨rfl,-⟩:59=c/\_:=by injection htx with a b;exact⟨a,b⟩
   unfold nx at h;simp only[]at h;rw[if_neg (by omega),if_neg (by decide),if_neg (by decide)]at h;injection h with h;rw[<-h]
 unfold qFT Tok.is;by_cases e:t.text=[59]
 ·rw[hk e,e];rfl
 ·have:(t.text==[59])=false:=by simpa using e
  rw[this];simp
structure qMo(N:Nat)(l:Bs)(t:Tok):Prop where
 lo:N-l.length<=t.at_
 hi:t.at_+t.text.length<=N
 pos:0<t.text.length
 txt:(l.drop (t.at_-(N-l.length))).take t.text.length=t.text
 sem:(t.text==[59])=qFT t
theorem qMc{l:Bs}{c:UInt8}{r:Bs}(hs:sk false l=c::r):l.drop (l.length-(c::r).length)=c::r:=by
 have:=qIF false l
 rwa [hs]at this
theorem qCw(N:Nat):∀(n:Nat) (l:Bs) (ts:List Tok),l.length<=n->l.length<=N->lx N l=.ok ts->(∀t∈ts,qMo N l t)/\ts.Pairwise (fun a b=>a.at_<b.at_)
 |n,l,ts,hn,hN,h=>by
  rw[qCy]at h;cases hs:sk false l with
  |nil=>rw[hs]at h;simp only[]at h;cases h;exact⟨nofun,List.Pairwise.nil⟩
  |cons c r=>
   rw[hs]at h;simp only[]at h;have hle:(c::r).length<=l.length:=by rw[<-hs];exact qC0 _ _
   have hpos:0<(c::r).length:=by simp
   have hdr:=qMc hs;cases hx:nx (N-(c::r).length) (c::r)with
   |error e'=>rw[hx]at h;cases h
   |ok t=>
    rw[hx]at h;simp only[]at h;obtain⟨h0,htx,hat⟩:=qEG hx;have hsem:=qLk hx;have htl:=qHO (c::r);have htlen:t.text.length=tl (c::r):=by rw[htx,List.length_take];omega
    obtain⟨p2,hp2⟩:∃p2,(c::r).drop (tl (c::r))=p2:=⟨_,rfl⟩;have hl2:p2.length=(c::r).length-tl (c::r):=by rw[<-hp2,List.length_drop]
    rw[hp2]at h;cases hy:lx N p2 with
    |error x=>rw[hy]at h;cases h
    |ok us=>
     rw[hy]at h;simp only[]at h;cases h;obtain⟨m,rfl⟩:∃m,n=m+1:=⟨n-1,by omega⟩;obtain⟨i1,i2⟩:=qCw N m p2 us (by omega) (by omega) hy;refine⟨fun u hu=> ?_,List.pairwise_cons.2 ⟨fun u hu=> ?_,i2⟩⟩
     ·rcases List.mem_cons.1 hu with rfl|hu
      ·refine⟨by omega,by omega,by omega,?_,hsem⟩
       rw[hat,show N-(c::r).length-(N-l.length)=l.length-(c::r).length by omega,hdr,htlen,<-htx]
      ·have q:=i1 u hu
       have:=q.lo;refine⟨by omega,q.hi,q.pos,?_,q.sem⟩;have e:=q.txt;have e2:p2=l.drop (l.length-p2.length):=by
        have e3:p2=(l.drop (l.length-(c::r).length)).drop (tl (c::r)):=by rw[hdr,hp2]
        rw[List.drop_drop]at e3
        rwa [show l.length-(c::r).length+tl (c::r)=l.length-p2.length by omega]at e3
       rw[e2,List.drop_drop]at e;rw[<-e2]at e;rw[show l.length-p2.length+(u.at_-(N-p2.length))=u.at_-(N-l.length) by omega]at e;exact e
     ·have q:=i1 u hu
      have:=q.lo;omega
theorem qK0(N:Nat):∀(n:Nat) (l:Bs) (A B:List Tok) (t:Tok),l.length<=n->l.length<=N->lx N l=.ok (A++t::B)->qFT t=true->
 lx (t.at_+1) (l.take (t.at_+1-(N-l.length)))=.ok (A++[t])
 |n,l,A,B,t,hn,hN,h,hsm=>by
  obtain⟨hpl,-⟩:=qCw N n l _ hn hN h;have hti:=hpl t (by simp);have htx:t.text=[59]:=by have:=hti.sem;rw[hsm]at this;simpa using this
  rw[qCy]at h;cases hs:sk false l with
  |nil=>rw[hs]at h;simp only[]at h;injection h with h;simp at h
  |cons c r=>
   rw[hs]at h;simp only[]at h;have hle:(c::r).length<=l.length:=by rw[<-hs];exact qC0 _ _
   have hpos:0<(c::r).length:=by simp
   cases hx:nx (N-(c::r).length) (c::r)with
   |error e'=>rw[hx]at h;cases h
   |ok t0=>
    rw[hx]at h;simp only[]at h;obtain⟨h0,htx0,hat⟩:=qEG hx;have htl:=qHO (c::r);have htlen:t0.text.length=tl (c::r):=by rw[htx0,List.length_take];omega
    obtain⟨p2,hp2⟩:∃p2,(c::r).drop (tl (c::r))=p2:=⟨_,rfl⟩;have hl2:p2.length=(c::r).length-tl (c::r):=by rw[<-hp2,List.length_drop]
    rw[hp2]at h;cases hy:lx N p2 with
    |error x=>rw[hy]at h;cases h
    |ok us=>
     rw[hy]at h;simp only[]at h;injection h with h;cases A with
     |nil=>
      obtain⟨rfl,-⟩:t0=t/\us=B:=by simpa using h
      rw[htx]at htlen;have h1:tl (c::r)=1:=by simpa using htlen.symm
      have hk:=qGD l false c r 0 hs;have hn2:=qI8 0 hx;rw[h1]at hn2;rw[hat,show N-(c::r).length+1-(N-l.length)=l.length-(c::r).length+(0+1) by omega,qCy,hk];simp only[List.take_succ_cons,List.take_zero]at hn2 ⊢;have e1:N-(c::r).length+1-([c]:Bs).length=N-(c::r).length:=by simp
      rw[e1,hn2];have htt:=qGC c r 0 h0;rw[h1]at htt;simp only[List.take_succ_cons,List.take_zero]at htt;rw[htt];simp only[List.drop_succ_cons,List.drop_zero];rw[qCy];rfl
     |cons a A=>
      obtain⟨rfl,rfl⟩:t0=a/\us=A++t::B:=by simpa using h
      obtain⟨m,rfl⟩:∃m,n=m+1:=⟨n-1,by omega⟩;have ih:=qK0 N m p2 A B t (by omega) (by omega) hy hsm;obtain⟨hpl2,-⟩:=qCw N m p2 _ (by omega) (by omega) hy;have hq:=(hpl2 t (by simp)).lo;have hq2:=(hpl2 t (by simp)).hi;rw[htx]at hq2;simp only[List.length_cons,List.length_nil]at hq2;obtain⟨q,hqq⟩:∃q,t.at_+1-(N-p2.length)=q:=⟨_,rfl⟩;rw[hqq]at ih;have hn2:=qI8 q hx;have e1:t.at_+1-(N-l.length)=l.length-(c::r).length+(tl (c::r)+q):=by omega
      obtain⟨j,hj⟩:∃j,tl (c::r)+q=j+1:=⟨tl (c::r)+q-1,by omega⟩;have htt:=qGC c r q h0;have hlen:((c::r).take (tl (c::r)+q)).length=tl (c::r)+q:=by rw[List.length_take];omega
      have hdd:((c::r).take (j+1)).drop (tl (c::r))=p2.take q:=by
       rw[<-hj,<-hp2,List.take_add,List.drop_append_of_le_length (by rw[List.length_take];omega)];rw[List.drop_of_length_le (by rw[List.length_take];omega),List.nil_append]
      rw[hj]at hn2 htt hlen;rw[e1,hj,qCy,qGD l false c r j hs];have e2:t.at_+1-((c::r).take (j+1)).length=N-(c::r).length:=by rw[hlen];omega
      rw[List.take_succ_cons]at hn2 htt hdd e2 ⊢;simp only[];rw[e2,hn2];simp only[];rw[htt,hdd,ih];rfl
theorem qHm:∀(f:Nat) (l z:List Tok),l.length<f->qEa f l=.error z->
 ∃A B,l=A++B++z/\qAF B/\(A=[]\/ ∃A' t,A=A'++[t]/\qFT t=true)/\∃ds,∀g,A.length<g->qEa g A=.ok ds
 |0,l,z,hf,h=>by omega
 |f+1,[],z,hf,h=>by rw[qEa]at h;cases h
 |f+1,a::l,z,hf,h=>by
  rw[qEa]at h;cases hd:qBi (a::l)with
  |error z9=>
   rw[hd]at h;simp only[]at h;injection h with h;subst h;obtain⟨pre,e1,e2⟩:=qI4 hd;refine⟨[],pre,by simpa using e1,e2,.inl rfl,[],fun g hg=> ?_⟩;obtain⟨g,rfl⟩:∃k,g=k+1:=⟨g-1,by simp at hg;omega⟩;rw[qEa]
  |ok x=>
   obtain⟨d,r⟩:=x;rw[hd]at h;simp only[]at h;obtain⟨pre,t,e1,e2,e3,e4,-⟩:=qHj hd;have hlr:r.length<(a::l).length:=by rw[e1];simp;omega
   cases hr:qEa f r with
   |ok ds=>rw[hr]at h;cases h
   |error z9=>
    rw[hr]at h;simp only[]at h;injection h with h;subst h;obtain⟨A,B,q1,q2,q3,ds,q4⟩:=qHm f r z9 (by omega) hr;refine⟨pre++t::A,B,by rw[e1,q1];simp,q2,.inr ?_,d::ds,fun g hg=> ?_⟩
    ·rcases q3 with rfl|⟨A',u,rfl,hu⟩
     ·exact⟨pre,t,rfl,e3⟩
     ·exact⟨pre++t::A',u,by simp,hu⟩
    ·obtain⟨g,rfl⟩:∃k,g=k+1:=⟨g-1,by omega⟩
     have hA:=q4 g (by simp at hg;omega);have hp:=e4 A;cases hpa:pre++t::A with
     |nil=>simp at hpa
     |cons b m=>
      rw[hpa]at hp;rw[qEa];simp only[hp,hA]
def qCV(k:Nat)(ts:List Tok):Nat:=ts.foldl (fun a t=>if t.text=[59]/\t.at_<k then t.at_+1 else a) 0
theorem qGk(k:Nat):∀(ts:List Tok) (a:Nat),(∀t∈ts,¬(t.text=[59]/\t.at_<k))->ts.foldl (fun a t=>if t.text=[59]/\t.at_<k then t.at_+1 else a) a=a
 |[],_,_=>rfl
 |t::ts,a,h=>by
  rw[List.foldl_cons,if_neg (h t (by simp))];exact qGk k ts a (fun u hu=>h u (by simp[hu]))
theorem qLu{s:Bs}{ts:List Tok}{k:Nat}{er:Int}(hs:s.length<=8192)(hl:lx s.length s=.ok ts)(hp:qAj s=.error (k,er)):
 er=2/\(k=s.length\/ ∃t∈ts,t.at_=k)/\qCV k ts<=s.length/\∃ds,qAj (s.take (qCV k ts))=.ok ds:=by
 unfold qAj at hp;rw[if_neg (by omega),hl]at hp;simp only[qDn]at hp;obtain⟨hin,hpw⟩:=qCw s.length s.length s ts (Nat.le_refl _) (Nat.le_refl _) hl;cases ha:qEa (ts.length+1) ts with
 |ok ds=>rw[ha]at hp;cases hp
 |error z=>
  rw[ha]at hp;simp only[]at hp;injection hp with hp;obtain⟨rfl,rfl⟩:qIY s.length z=k/\2=er:=by injection hp with a b;exact⟨a,b⟩
  obtain⟨A,B,e1,e2,e3,ds,e4⟩:=qHm _ _ _ (by omega) ha;have hz:∀u∈z,qIY s.length z<=u.at_:=by
   cases z with
   |nil=>nofun
   |cons v z=>
    intro u hu
    show v.at_<=u.at_
    rw[e1]at hpw;have h9:=(List.pairwise_append.1 hpw).2.1;rcases List.mem_cons.1 hu with rfl|hu
    ·omega
    ·have:=(List.pairwise_cons.1 h9).1 u hu
     omega
  have hA:∀u∈A,u.at_<qIY s.length z:=by
   intro u hu;cases z with
   |nil=>
    have q:=hin u (by rw[e1];simp[hu]);have:=q.hi;have:=q.pos
    show u.at_<s.length
    omega
   |cons v z=>
    rw[e1]at hpw;exact(List.pairwise_append.1 hpw).2.2 u (by simp[hu]) v (by simp)
  have hfold:∀a,(B++z).foldl (fun a t=>if t.text=[59]/\t.at_<qIY s.length z then t.at_+1 else a) a=a:=fun a=>qGk _ _ a (fun u hu ⟨g1,g2⟩=>by
   rcases List.mem_append.1 hu with hu|hu
   ·have q:=(hin u (by rw[e1];simp[hu])).sem
    rw[e2 u hu,g1]at q;simp at q
   ·have:=hz u hu
    omega)
  have hlast:qCV (qIY s.length z) ts=A.foldl (fun a t=>if t.text=[59]/\t.at_<qIY s.length z then t.at_+1 else a) 0:=by
   unfold qCV
   conv=>lhs;rw[e1,List.append_assoc,List.foldl_append]
   exact hfold _
  refine⟨rfl,?_,?_⟩
  ·cases z with
   |nil=>exact .inl rfl
   |cons v z=>exact .inr ⟨v,by rw[e1];simp,rfl⟩
  ·rcases e3 with rfl|⟨A',t,rfl,ht⟩
   ·rw[hlast]
    exact⟨Nat.zero_le _,[],rfl⟩
   ·have q:=hin t (by rw[e1];simp)
    have htx:t.text=[59]:=by have:=q.sem;rw[ht]at this;simpa using this
    have hlt:=hA t (by simp);have h9:qCV (qIY s.length z) ts=t.at_+1:=by
     rw[hlast,List.foldl_append,List.foldl_cons,List.foldl_nil,if_pos ⟨htx,hlt⟩]
    have hhi:=q.hi;rw[htx]at hhi;simp only[List.length_cons,List.length_nil]at hhi;rw[h9];refine⟨by omega,ds,?_⟩;have hc:=qK0 s.length s.length s A' (B++z) t (Nat.le_refl _) (Nat.le_refl _) (by rw[hl,e1];simp) ht;rw[Nat.sub_self,Nat.sub_zero]at hc;have hl2:(s.take (t.at_+1)).length=t.at_+1:=by rw[List.length_take];omega
    unfold qAj;rw[hl2,if_neg (by omega),hc];simp only[qDn];rw[e4 _ (by omega)]
theorem qLt{s:Bs}{x:Nat×Int}(hl:(if 8192<s.length then .error (0,4)else lx s.length s)=.error x):qAj s=.error x:=by
 unfold qAj;rw[hl]
def qKF(k:Nat)(ts:List Tok):Bool:=ts.any (fun t=>decide ((t.at_:Int)=(k:Int)))
theorem qKE(k:Nat)(ts:List Tok)(t:Tok):qKF k (ts++[t])=(qKF k ts||decide ((t.at_:Int)=(k:Int))):=by unfold qKF;rw[List.any_append];simp
theorem qIi(k:Nat)(ts:List Tok)(t:Tok):qCV k (ts++[t])=if t.text=[59]/\t.at_<k then t.at_+1 else qCV k ts:=by unfold qCV;rw[List.foldl_append];rfl
theorem qD8(v:Value)(zs:List Int)(len:Nat)(at_ how:Int)(w:World)(hl:qAG w v zs len)(ha1: -9223372036854775808<=at_)(ha2:at_<=9223372036854775807)(hh1: -9223372036854775808<=how)(hh2:how<=9223372036854775807)(hK:qAT w)(hP:qBC w):
 Calls Tryd.prog 8 #[v,.int .i64 at_,.int .i64 how] w fun e w'=>e=.returned (.bool true)/\Below w.heap.size w w':=by
 obtain⟨hGl,hGd⟩:=qEh (qAy zs len);have hTG:=qGd (fun i=>qBE zs len i 6) (qBK (pkN zs len)) 0 hGd;have hTL:=qEJ (fun i=>qBE zs len i 6) (qBK (pkN zs len)) 0;have htl:=qBw (txT zs len) hTG;have hx2:(txT zs len).length<=5:=by unfold txT;omega
 have HT0:=hZ (qEr v zs len w hl);obtain⟨T,hT⟩:=eX ((⟨(qAK (txT zs len)).toArray⟩:ByteArray));have htz:T.size<=3000:=by rw[<-hT];show(qAK (txT zs len)).length<=_;omega
 rw[hT]at HT0;have HSp:=hZ (fun w=>qHS T at_ how w (by omega) ha1 ha2 hh1 hh2);have HTz:=hZ htz;have HK:=hZ hK;have HP:=hZ hP;clear hl ha1 ha2 hh1 hh2 hK hP hGl hGd hTG hTL htl hx2 hT htz
 go_enter Tryd.func8,Tryd.ntmps8
 go_wp2_with fail
 refine HT0.o.mono ?_;rintro e w1 ⟨rfl,hB1⟩;have HB1:=hZ hB1;clear hB1 HT0
 go_wp2_with fail
 refine(HSp.o w1).mono ?_;rintro e w2 ⟨⟨r,rfl,hr⟩,hB⟩;have HB2:=hZ (HB1.o.trans (hB.mono HB1.o.size));have hrs:r.size<=8192:=by have:=HTz.o;omega
 have hpx:∀x,qAj r.data.toList=x->qAj r.data.toList=x:=fun _ h=>h;have hlen:r.data.toList.length=r.size:=by simp
 clear hB HB1 hr HTz HSp;cases hx:lx r.size r.data.toList with
 |error x=>
  obtain⟨k,er⟩:=x;have her:=(qJf r.size r.size r.data.toList k er (by omega) hx).1;have hp:qAj r.data.toList=.error (k,er):=qLt (by rw[if_neg (by omega),hlen];exact hx);have HR:=hZ hrs;have HC3:=hZ (qHN r k er w2 hrs hx (HK.o.below HB2.o HK.o.lt));have HC4:=hZ (fun w=>qF6 r k er w (by have:=HR.o;omega) hp);have hk:(k:Int)=(k:Int):=rfl;clear hx hp hpx hlen hrs;rcases her with rfl|rfl
  all_goals
   go_wp2_with fail
   refine HC3.o.mono ?_;rintro e w3 ⟨rfl,hB⟩;have HB3:=hZ (HB2.o.trans (hB.mono HB2.o.size));clear hB HC3 HB2
   go_wp2_with fail
   refine(HC4.o w3 (HK.o.below HB3.o HK.o.lt)).mono ?_;rintro e w4 ⟨rfl,hB⟩;have HB4:=hZ (HB3.o.trans (hB.mono HB3.o.size));clear hB HC4 HB3
   go_wp2_with fail
   refine(qCz w4 (HK.o.below HB4.o HK.o.lt) (HP.o.below HB4.o HP.o.lt)).mono ?_;rintro e w5 ⟨rfl,hB⟩;have HB5:=hZ (HB4.o.trans (hB.mono HB4.o.size));clear hB HB4
   go_wp2_with fail
   go_ret;exact⟨rfl,HB5.o⟩
 |ok ts=>
  have HR:=hZ hrs;obtain⟨n,hn⟩:=eX ts.length;have HC3:=hZ (qFO r ts w2 hrs hx (HK.o.below HB2.o HK.o.lt));rw[hn]at HC3;have Hn:=hZ hn;have hnl:=qCx r.size r.size r.data.toList ts (by omega) hx;have hnb:n<=8192:=by omega
  cases hp:qAj r.data.toList with
  |ok ds=>
   have HC4:=hZ (fun w=>qBq r ds w (by have:=HR.o;omega) hp);clear hx hp hpx hlen hrs hn hnl
   go_wp2_with fail
   refine HC3.o.mono ?_;rintro e w3 ⟨⟨a3,c3,rfl,-⟩,hB⟩;have HB3:=hZ (HB2.o.trans (hB.mono HB2.o.size));clear hB HC3 HB2
   go_wp2_with fail
   refine(HC4.o w3 (HK.o.below HB3.o HK.o.lt)).mono ?_;rintro e w4 ⟨⟨a4,c4,rfl, -,-⟩,hB⟩;have HB4:=hZ (HB3.o.trans (hB.mono HB3.o.size));clear hB HC4 HB3
   go_wp2_with fail
   refine(qCz w4 (HK.o.below HB4.o HK.o.lt) (HP.o.below HB4.o HP.o.lt)).mono ?_;rintro e w5 ⟨rfl,hB⟩;have HB5:=hZ (HB4.o.trans (hB.mono HB4.o.size));clear hB HB4
   go_wp2_with fail
   go_ret;exact⟨rfl,HB5.o⟩
  |error x=>
   obtain⟨k,er⟩:=x;obtain⟨rfl,hfd,hls,ds,hpd⟩:=qLu (by omega) (by rw[hlen];exact hx) hp;have HC4:=hZ (fun w=>qF6 r k 2 w (by have:=HR.o;omega) hp);obtain⟨L,hL⟩:=eX (qCV k ts);rw[hL]at hls hpd;have HL:=hZ hL;have HC5:=hZ (fun w=>qBq (r.extract 0 L) ds w (by rw[ByteArray.size_extract];have:=HR.o;omega) (by rw[qKG];exact hpd));have hLr:L<=r.size:=by omega
   have HF:Hid ((decide ((k:Int)=(r.size:Int))||qKF k ts)=true):=hZ (by
    rcases hfd with e|⟨t,ht,e⟩
    ·simp[e,hlen]
    ·have:qKF k ts=true:=by unfold qKF;rw[List.any_eq_true];exact⟨t,ht,by simp[e]⟩
     simp[this])
   have HAt:Hid (∀t∈ts,t.at_<=8192):=hZ (fun t ht=>by
    have:=((qCw r.size r.size r.data.toList ts (by omega) (by omega) hx).1 t ht).hi;have:=HR.o;omega)
   clear hx hp hpx hlen hrs hn hnl hfd hls hpd hL
   go_wp2_with fail
   refine HC3.o.mono ?_;rintro e w3 ⟨⟨a3,c3,rfl,hv⟩,hB⟩;have HV3:=hZ hv;have HB3:=hZ (HB2.o.trans (hB.mono HB2.o.size));clear hB HC3 HB2 hv
   go_wp2_with fail
   refine(HC4.o w3 (HK.o.below HB3.o HK.o.lt)).mono ?_;rintro e w4 ⟨rfl,hB⟩;have HV4:=hZ (HV3.o.kb hB);have HB4:=hZ (HB3.o.trans (hB.mono HB3.o.size));clear hB HC4 HB3 HV3
   go_wp2_with fail
   go_loopw [14,15,16] (fun fv lv iv wr=>∃(i:Nat) (fb:Bool),i<=n/\iv=.int .i64 i/\fv=.bool fb/\lv=.int .i64 (qCV k (ts.take i):Nat)/\Hid (fb=(decide ((k:Int)=(r.size:Int))||qKF k (ts.take i)))/\Hid (Below w4.heap.size w4 wr)) (fun _ _ iv _=>n-(intOf iv).toNat)
   case atStart=>exact⟨0,decide ((k:Int)=(r.size:Int)),by omega,rfl,by first|rfl|(congr 1;simp),rfl,hZ (by simp[qKF]),hZ (Below.refl _ _)⟩
   case round=>
    obtain⟨i,fb,hi,rfl,rfl,rfl,HFb,HB⟩:=hrel;by_cases hlt:i<n
    ·have h1:i<ts.length:=by have:=Hn.o;omega
     obtain⟨g,o1,cp,hv,y1,y3⟩:=qCW.two (HV4.o.kb HB.o) i h1;injection hv with hv hq1 hv2;subst hv hv2;have HFn:Hid ((decide ((k:Int)=(r.size:Int))||qKF k (ts.take (i+1)))=(fb||decide ((ts[i].at_:Int)=(k:Int)))):=hZ (by
      rw[List.take_succ_eq_append_getElem h1,qKE,<-Bool.or_assoc,<-HFb.o])
     have HLn:Hid (qCV k (ts.take (i+1))=if ts[i].text=[59]/\ts[i].at_<k then ts[i].at_+1 else qCV k (ts.take i)):=hZ (by
      rw[List.take_succ_eq_append_getElem h1,qIi])
     have ha:=HAt.o _ (List.getElem_mem h1);obtain⟨t,ht⟩:=eX (ts[i]);rw[ht]at y1 y3 HFn HLn ha;obtain⟨l0,hl0⟩:=eX (qCV k (ts.take i));rw[hl0]at HLn ⊢;obtain⟨tx,htx⟩:=eX t.text;obtain⟨ta,hta⟩:=eX t.at_;rw[htx]at y1 HLn;rw[hta]at y3 HFn HLn ha;have HE:Hid (((ta:Int)==(k:Int))=decide ((ta:Int)=(k:Int))):=hZ (by by_cases h:(ta:Int)=(k:Int)<;>simp[h]);have hn0:(0:Int)<=(i:Int):=by omega
     have hn1:(i:Int)<(n:Int):=by omega
     clear ht hl0 htx hta hq1 h1 HFb;have hcase:tx≠[59]\/(tx=[59]/\ta<k)\/(tx=[59]/\¬ta<k):=by by_cases h9:tx=[59]<;>by_cases h8:ta<k<;>simp[h9,h8]
     rcases hcase with h9|⟨rfl,h9⟩|⟨rfl,h9⟩
     ·have q9:(tx==[59])=false:=by simp[h9]
      have hln:qCV k (ts.take (i+1))=l0:=by rw[HLn.o,if_neg (fun h=>h9 h.1)]
      have HLn2:=hZ hln;clear h9 hln HLn;cases fb
      all_goals
       go_wp2_with fail
       go_roundw
       case rel=>exact⟨i+1,_,by omega,by go_num,rfl,by rw[HLn2.o],hZ (by rw[HFn.o];first|(simp;done)|(simp;exact HE.o)),HB⟩
       case measure=>simp[intOf];omega
     ·have hln:qCV k (ts.take (i+1))=ta+1:=by rw[HLn.o,if_pos ⟨rfl,h9⟩]
      have HLn2:=hZ hln;have h8:(ta:Int)<(k:Int):=by omega
      clear h9 hln HLn;cases fb
      all_goals
       go_wp2_with fail
       go_roundw
       case rel=>exact⟨i+1,_,by omega,by go_num,rfl,by rw[HLn2.o];go_num,hZ (by rw[HFn.o];first|(simp;done)|(simp;exact HE.o)),HB⟩
       case measure=>simp[intOf];omega
     ·have hln:qCV k (ts.take (i+1))=l0:=by rw[HLn.o,if_neg (fun h=>h9 h.2)]
      have HLn2:=hZ hln;have h8:¬(ta:Int)<(k:Int):=by omega
      clear h9 hln HLn;cases fb
      all_goals
       go_wp2_with fail
       go_roundw
       case rel=>exact⟨i+1,_,by omega,by go_num,rfl,by rw[HLn2.o],hZ (by rw[HFn.o];first|(simp;done)|(simp;exact HE.o)),HB⟩
       case measure=>simp[intOf];omega
    ·have hn1:¬(i:Int)<(n:Int):=by omega
     have hT:ts.take i=ts:=List.take_of_length_le (by have:=Hn.o;omega);have hfb:fb=true:=by rw[HFb.o,hT];exact HF.o
     subst hfb;rw[hT,HL.o];have hL0:¬(L:Int)<0:=by omega
     have hL1:¬(r.size:Int)<(L:Int):=by omega
     have hL2:(L:Int)<=(r.size:Int):=by omega
     have hL3:(0:Int)<=(L:Int):=by omega
     have HBr:=hZ (HB4.o.trans (HB.o.mono HB4.o.size));clear HFb HF HL hT HV4 HB HB4
     go_wp2_with fail
     refine(HC5.o wr (HK.o.below HBr.o HK.o.lt)).mono ?_;rintro e w5 ⟨⟨a5,c5,rfl, -,-⟩,hB⟩;have HB5:=hZ (HBr.o.trans (hB.mono HBr.o.size));clear hB HC5 HBr
     go_wp2_with fail
     refine(qCz w5 (HK.o.below HB5.o HK.o.lt) (HP.o.below HB5.o HP.o.lt)).mono ?_;rintro e w6 ⟨rfl,hB⟩;have HB6:=hZ (HB5.o.trans (hB.mono HB5.o.size));clear hB HB5
     go_wp2_with fail
     go_ret;exact⟨rfl,HB6.o⟩
end Go.Proofs.YtpmnbcdjoomgcaaDoor
