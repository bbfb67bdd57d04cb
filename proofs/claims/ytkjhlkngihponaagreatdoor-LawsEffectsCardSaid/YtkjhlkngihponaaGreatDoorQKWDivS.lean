/- wide: divideShort. -/
import Derived.Below
import Derived.Lib.Hide
import Derived.Laws.OwnMore
import Derived.Laws.Rows
import Derived.Laws.CopyOwn
import Derived.Deep.Draws
import Derived.OwnWalk
import Derived.WalkKit
import Derived.Test.YtkjhlkngihponaaGreatDoorProg
import Derived.Deep.QuietTactic
import Derived.BigQuiet
import Derived.LoopTactic
import Derived.RegionTactic
import Derived.BigRegion
import Derived.ChangeAlike
import Derived.IntWalk
import Derived.Outline
import Derived.WalkLawsBesides
import Derived.Laws.BitsAllLaws
import Derived.Laws.BitsLemmas
set_option linter.unusedVariables false
set_option linter.unusedSimpArgs false
set_option maxHeartbeats 2000000
set_option maxRecDepth 100000
namespace Go.Proofs.YtkjhlkngihponaaGreatDoor

def val(b:Nat):List Nat->Nat
 |[]=>0
 |x::xs=>x+b*val b xs
def qIY(b:Nat):Nat->Nat->List Nat
 |0,_=>[]
 |f+1,n=>if n=0 then []else n%b::qIY b f (n/b)
def qAm(b n:Nat):List Nat:=qIY b n n
def Low(b:Nat)(l:List Nat):Prop:=∀x∈l,x<b
theorem qG9(b:Nat)(hb:2<=b):∀(f g n:Nat),n<=f->n<=g->qIY b f n=qIY b g n
 |0,0,_,_,_=>rfl
 |0,g+1,n,hf,_=>by
  have:n=0:=by omega
  subst this;simp[qIY]
 |f+1,0,n,_,hg=>by
  have:n=0:=by omega
  subst this;simp[qIY]
 |f+1,g+1,n,hf,hg=>by
  unfold qIY;by_cases h:n=0
  ·rw[if_pos h,if_pos h]
  ·rw[if_neg h,if_neg h]
   have h2:n/b<n:=Nat.div_lt_self (by omega) (by omega);rw[qG9 b hb f g (n/b) (by omega) (by omega)]
theorem qA3(b:Nat):qAm b 0=[]:=rfl
theorem qBt(b n:Nat)(hb:2<=b)(hn:n≠0):qAm b n=n%b::qAm b (n/b):=by
 unfold qAm;cases n with
 |zero=>exact absurd rfl hn
 |succ m=>
  have h2:(m+1)/b<m+1:=Nat.div_lt_self (by omega) (by omega)
  conv=>lhs;unfold qIY
  rw[if_neg hn,qG9 b hb m ((m+1)/b) _ (by omega) (Nat.le_refl _)]
theorem qAu(b:Nat)(hb:2<=b)(n:Nat):val b (qAm b n)=n:=by
 induction n using Nat.strongRecOn with
 |_ n ih=>
  by_cases h:n=0
  ·subst h;rfl
  ·rw[qBt b n hb h,val,ih (n/b) (Nat.div_lt_self (by omega) (by omega))]
   have:=Nat.div_add_mod n b;omega
theorem qAv(b:Nat)(hb:2<=b)(n:Nat):Low b (qAm b n):=by
 induction n using Nat.strongRecOn with
 |_ n ih=>
  by_cases h:n=0
  ·subst h;intro x hx;cases hx
  ·rw[qBt b n hb h]
   intro x hx;rcases List.mem_cons.1 hx with rfl|hx
   ·exact Nat.mod_lt _ (by omega)
   ·exact ih (n/b) (Nat.div_lt_self (by omega) (by omega)) x hx
theorem qBB(b n:Nat)(hb:2<=b):qAm b n=[] ↔ n=0:=by
 constructor
 ·intro h
  have:=qAu b hb n;rw[h]at this;exact this.symm
 ·rintro rfl;rfl
theorem qGg(b:Nat)(hb:2<=b)(n:Nat):(qAm b n).getLast? ≠some 0:=by
 induction n using Nat.strongRecOn with
 |_ n ih=>
  by_cases h:n=0
  ·subst h;intro h;cases h
  ·rw[qBt b n hb h]
   have hlt:=Nat.div_lt_self (n:=n) (k:=b) (by omega) (by omega);by_cases h2:n/b=0
   ·rw[h2,qA3]
    intro h3;simp at h3;have:=Nat.div_add_mod n b;rw[h2]at this;simp at this;omega
   ·have:=ih (n/b) hlt
    have hne:qAm b (n/b)≠[]:=fun h=>h2 ((qBB b _ hb).1 h);rw[List.getLast?_cons];cases hd:qAm b (n/b)with
    |nil=>exact absurd hd hne
    |cons y ys=>
     rw[hd]at this;rw[List.getLast?_eq_some_getLast (by simp)]at this ⊢;simpa using this
theorem qFP(b:Nat)(hb:2<=b):∀l:List Nat,Low b l->l.getLast? ≠some 0->qAm b (val b l)=l
 |[],_,_=>rfl
 |x::xs,hl,hlast=>by
  have hx:x<b:=hl x (List.mem_cons_self ..);have hxs:Low b xs:=fun y hy=>hl y (List.mem_cons_of_mem _ hy);cases xs with
  |nil=>
   have hx0:x≠0:=by rintro rfl;exact hlast rfl
   show qAm b (x+b*0)=[x]
   rw[Nat.mul_zero,Nat.add_zero,qBt b x hb hx0,Nat.mod_eq_of_lt hx,Nat.div_eq_of_lt hx,qA3]
  |cons y ys=>
   have h1:(y::ys).getLast? ≠some 0:=by
    rw[List.getLast?_cons_cons]at hlast;exact hlast
   have ih:=qFP b hb (y::ys) hxs h1;have hv:val b (y::ys)≠0:=by
    intro h;rw[h]at ih;cases ih
   show qAm b (x+b*val b (y::ys))=x::y::ys
   have hne:x+b*val b (y::ys)≠0:=by
    have:=Nat.mul_pos (show 0<b by omega) (Nat.pos_of_ne_zero hv);omega
   rw[qBt b _ hb hne,Nat.add_mul_mod_self_left,Nat.mod_eq_of_lt hx,Nat.add_mul_div_left _ _ (by omega),Nat.div_eq_of_lt hx,Nat.zero_add,ih]
theorem qA4(b:Nat):∀l m:List Nat,val b (l++m)=val b l+b^l.length*val b m
 |[],m=>by simp[val]
 |x::xs,m=>by
  rw[List.cons_append,val,val,qA4 b xs m,List.length_cons,Nat.pow_succ]
  grind
theorem qBP(b:Nat)(hb:0<b):∀l:List Nat,Low b l->val b l<b^l.length
 |[],_=>by simp[val]
 |x::xs,hl=>by
  have hx:x<b:=hl x (List.mem_cons_self ..);have ih:=qBP b hb xs (fun y hy=>hl y (List.mem_cons_of_mem _ hy));rw[val,List.length_cons,Nat.pow_succ];have h1:b*(val b xs+1)<=b*b^xs.length:=Nat.mul_le_mul_left _ ih;rw[Nat.mul_add,Nat.mul_one]at h1;rw[Nat.mul_comm (b^xs.length) b];omega
theorem qCx(b:Nat):∀l:List Nat,(∀x∈l,x=0)->val b l=0
 |[],_=>rfl
 |x::xs,h=>by
  rw[val,qCx b xs (fun y hy=>h y (List.mem_cons_of_mem _ hy)),h x (List.mem_cons_self ..)];simp
theorem qCu(b:Nat):∀(l:List Nat) (k x:Nat) (h:k<l.length),val b (l.set k x)+l[k]*b^k=val b l+x*b^k
 |[],_,_,h=>by simp at h
 |y::ys,0,x,_=>by simp[val];omega
 |y::ys,k+1,x,h=>by
  have ih:=qCu b ys k x (by simpa using h);rw[List.set_cons_succ,val,val,List.getElem_cons_succ,Nat.pow_succ]
  grind
theorem qAj(b:Nat)(l:List Nat)(k:Nat)(h:k<l.length):val b (l.take (k+1))=val b (l.take k)+l[k]*b^k:=by
 rw[List.take_succ_eq_append_getElem h,qA4,List.length_take,Nat.min_eq_left (by omega)];simp[val,Nat.mul_comm]
theorem qGz(b:Nat)(l:List Nat)(n:Nat)(hz:∀j (h:j<l.length),n<=j->l[j]=0):val b l=val b (l.take n):=by
 conv=>lhs;rw[<-List.take_append_drop n l]
 rw[qA4,qCx b (l.drop n),Nat.mul_zero,Nat.add_zero];intro x hx;obtain⟨i,hi,rfl⟩:=List.getElem_of_mem hx;rw[List.getElem_drop];exact hz _ _ (by omega)
theorem qIf(b:Nat)(hb:2<=b)(l:List Nat)(hl:Low b l)(n:Nat)(hn:n<=l.length)(hz:∀j (h:j<l.length),n<=j->l[j]=0)(hlast:∀h:n-1<l.length,n=0\/l[n-1]≠0):l.take n=qAm b (val b l):=by
 rw[qGz b l n hz,qFP b hb]
 ·intro x hx;exact hl x (List.mem_of_mem_take hx)
 ·intro h
  cases n with
  |zero=>simp at h
  |succ n=>
   have hlt:n<l.length:=by omega
   rw[List.take_succ_eq_append_getElem hlt,List.getLast?_concat]at h;have:=hlast (by simpa using hlt);simp at this h;exact this h
theorem qBh(b:Nat)(hb:2<=b):∀(k n:Nat),n<b^k->(qAm b n).length<=k
 |0,n,h=>by
  have:n=0:=by simpa using h
  subst this;simp[qA3]
 |k+1,n,h=>by
  by_cases h0:n=0
  ·subst h0;simp[qA3]
  ·rw[qBt b n hb h0,List.length_cons]
   have:=qBh b hb k (n/b) (by rw[Nat.div_lt_iff_lt_mul (by omega)];rw[Nat.pow_succ]at h;exact h);omega
theorem qGf(b:Nat)(hb:2<=b)(k n:Nat)(h:b^k<=n):k<(qAm b n).length:=by
 have h1:=qBP b (by omega) (qAm b n) (qAv b hb n);rw[qAu b hb]at h1;exact(Nat.pow_lt_pow_iff_right (by omega)).1 (Nat.lt_of_le_of_lt h h1)
theorem qBk(b:Nat)(hb:2<=b)(m n:Nat)(h:m<=n):(qAm b m).length<=(qAm b n).length:=by
 apply qBh b hb;have h1:=qBP b (by omega) (qAm b n) (qAv b hb n);rw[qAu b hb]at h1;omega
theorem qIE(b:Nat)(hb:2<=b)(m n:Nat)(h:(qAm b m).length<(qAm b n).length):m<n:=by
 rcases Nat.lt_or_ge m n with h1|h1
 ·exact h1
 ·have:=qBk b hb n m h1;omega
theorem qIc(b:Nat)(hb:2<=b)(l m:List Nat)(hl:Low b l)(i:Nat)(h1:i<l.length)(h2:i<m.length)(hd:l.drop (i+1)=m.drop (i+1))(hlt:l[i]<m[i]):val b l<val b m:=by
 have e1:val b l=val b (l.take (i+1))+b^(i+1)*val b (l.drop (i+1)):=by
  conv=>lhs;rw[<-List.take_append_drop (i+1) l,qA4,List.length_take,Nat.min_eq_left (by omega)]
 have e2:val b m=val b (m.take (i+1))+b^(i+1)*val b (m.drop (i+1)):=by
  conv=>lhs;rw[<-List.take_append_drop (i+1) m,qA4,List.length_take,Nat.min_eq_left (by omega)]
 rw[e1,e2,hd,qAj b l i h1,qAj b m i h2];have h3:=qBP b (by omega) (l.take i) (fun x hx=>hl x (List.mem_of_mem_take hx));rw[List.length_take,Nat.min_eq_left (by omega)]at h3;have h4:(l[i]+1)*b^i<=m[i]*b^i:=Nat.mul_le_mul_right _ hlt;rw[Nat.add_mul,Nat.one_mul]at h4;omega
theorem qBe{b:Nat}{l:List Nat}(hl:Low b l)(k x:Nat)(hx:x<b):Low b (l.set k x):=by
 intro y hy;rcases List.mem_or_eq_of_mem_set hy with h|rfl
 ·exact hl y h
 ·exact hx
theorem qEH{b:Nat}{l m:List Nat}(hl:Low b l)(hm:Low b m):Low b (l++m):=by
 intro y hy;rcases List.mem_append.1 hy with h|h
 ·exact hl y h
 ·exact hm y h
theorem qEg{b:Nat}{l:List Nat}(hl:Low b l)(n:Nat):Low b (l.take n):=fun x hx=>hl x (List.mem_of_mem_take hx)
open Go.RowKit
def iv(k:IntKind)(x:Nat):Value:=.int k (x:Int)
def Blk(w:World)(g:Nat)(t:TypeId)(k:IntKind)(L:List Nat):Prop:=w.heap[g]? =some (.cells (L.map (iv k)).toArray t (0,0))
section
variable {w w':World}{g:Nat}{t:TypeId}{k:IntKind}{L:List Nat}
theorem Blk.lt(h:Blk w g t k L):g<w.heap.size:=by
 rcases Nat.lt_or_ge g w.heap.size with hlt|hge
 ·exact hlt
 ·unfold Blk at h;rw[Array.getElem?_eq_none hge]at h;cases h
theorem Blk.heap(h:Blk w g t k L):w.heap[g]? =some (.cells (L.map (iv k)).toArray t (0,0)):=h
theorem Blk.cell(h:Blk w g t k L)(i:Nat)(hi:i<L.length):w.cell? ⟨g,i,none⟩=some (.int k (L[i]:Int)):=by
 rw[cell_of_row w g i _ t (0,0) h];simp[hi,iv]
theorem Blk.frozen(h:Blk w g t k L)(i:Nat):w.frozen? ⟨g,i,none⟩=false:=by
 unfold Blk at h;simp[World.frozen?,h]
theorem Blk.below{B:Nat}(h:Blk w g t k L)(hb:Below B w w')(hg:g<B):Blk w' g t k L:=(hb.block g hg).trans h
theorem Blk.set(h:Blk w g t k L)(i:Nat)(x:Nat):Blk (w.setCell ⟨g,i,none⟩ (.int k (x:Int))) g t k (L.set i x):=by
 unfold Blk at h ⊢;simp[World.setCell,Array.getElem?_modify,h,iv]
theorem Blk.far(h:Blk w g t k L){p:Addr}(hp:g≠p.block)(u:Value):Blk (w.setCell p u) g t k L:=(Below.heap_setCell w p u g hp).trans h
theorem Blk.drewN(h:Blk w g t k L)(n:Nat):Blk (w.drewN n) g t k L:=h
theorem Blk.drew(h:Blk w g t k L):Blk w.drew g t k L:=h
theorem Blk.alloc(h:Blk w g t k L)(o:Obj):Blk (w.alloc o) g t k L:=(Below.heap_alloc w o g h.lt).trans h
end
def qAd(k:IntKind)(w:World)(v:Value)(L:List Nat):Prop:=
 ∃a cap,v=.slice a L.length cap/\L.length<=cap/\cap<=9223372036854775807/\(0<L.length->∃b off,a=some ⟨b,off,none⟩/\b<w.heap.size/\∀j (h:j<L.length),w.cell? ⟨b,off+j,none⟩=some (.int k (L[j]:Int)))
section
variable {k:IntKind}{w w':World}{v:Value}{L:List Nat}
theorem qAd.below{B:Nat}(h:qAd k w v L)(hB:w.heap.size<=B)(hb:Below B w w'):qAd k w' v L:=by
 obtain⟨a,cap,hv,h1,h2,hc⟩:=h;refine⟨a,cap,hv,h1,h2,fun h0=> ?_⟩;obtain⟨b,off,ha,hlt,hcc⟩:=hc h0;exact⟨b,off,ha,Nat.lt_of_lt_of_le hlt hb.size,fun j hj=>(hb.cell (p:=⟨b,off+j,none⟩) (Nat.lt_of_lt_of_le hlt hB)).trans (hcc j hj)⟩
theorem qAd.nil(a:Option Addr)(cap:Nat)(hc:cap<=9223372036854775807):qAd k w (.slice a 0 cap) []:=⟨a,cap,rfl,by simp,hc,fun h=>by simp at h⟩
theorem qAd.of_blk{g:Nat}{t:TypeId}{cap:Nat}(h:Blk w g t k L)(h1:L.length<=cap)(h2:cap<=9223372036854775807):qAd k w (.slice (some ⟨g,0,none⟩) L.length cap) L:=
 ⟨_,cap,rfl,h1,h2,fun _=>⟨g,0,rfl,h.lt,fun j hj=>by rw[Nat.zero_add];exact h.cell j hj⟩⟩
theorem qAd.take(h:qAd k w v L)(n:Nat)(hn:n<=L.length):∃a cap,v=.slice a L.length cap/\L.length<=cap/\cap<=9223372036854775807/\qAd k w (.slice a n cap) (L.take n):=by
 obtain⟨a,cap,hv,h1,h2,hc⟩:=h;have hl:(L.take n).length=n:=by rw[List.length_take];omega
 refine⟨a,cap,hv,h1,h2,a,cap,by rw[hl],by omega,h2,fun h0=> ?_⟩;obtain⟨b,off,ha,hlt,hcc⟩:=hc (by omega);exact⟨b,off,ha,hlt,fun j hj=>by rw[List.getElem_take];exact hcc j (by omega)⟩
theorem qAd.at_(h:qAd k w v L){j:Nat}(hj:j<L.length):∃b off cap,v=.slice (some ⟨b,off,none⟩) L.length cap/\b<w.heap.size/\w.cell? ⟨b,off+j,none⟩=some (.int k (L[j]:Int)):=by
 obtain⟨a,cap,rfl,h1,h2,hc⟩:=h;obtain⟨b,off,rfl,hlt,hcc⟩:=hc (by omega);exact⟨b,off,cap,rfl,hlt,hcc j hj⟩
end
theorem qDO{w w':World}(h:w.grownBy w' none):Below w.heap.size w w':=⟨h.os,h.tape,h.output,h.size,fun k hk=>h.block k hk (by simp)⟩
theorem qHE(k:IntKind)(n:Nat):(madeCells (Value.int k 0).cells (n*1)).toList=(List.replicate n 0).map (iv k):=by
 simp[madeCells,Value.cells,iv,Nat.mod_one,List.map_const']
theorem qAD{P:Program}(w:World){ops:Array Oper}{rest:List Oper}{o:Oper}{a:Act}{Q:Exit->Act->World->Prop}
 (hg:o.guard=none)(l c:Operand)(t:TypeId)(hop:o.op=Op.makeSlice t l c)
 (e:TypeId)(i:TypeInfo)(k:IntKind)(h1:P.underlying t=some (.slice e))(h2:P.info? e=some i)(h3:i.zero=some (.int k 0))(h4:i.size=1)
 (kl kc:IntKind)(A C:Int)(n:Nat)(hl:a.eval l=.int kl A)(hc:a.eval c=.int kc C)(hA:A=(n:Int))(hC:C=(n:Int))(b2:i.bytes*n<=281474976710656)(b3:n<=9223372036854775807)
 (hK:∀w',Blk w' w.heap.size e k (List.replicate n 0)->Below w.heap.size w w'->w.heap.size<w'.heap.size->wpList P ops Q rest (a.put o.dst (.slice (some ⟨w.heap.size,0,none⟩) n n)) w'):
 wpList P ops Q (o::rest) a w:=by
 refine wpList_make_full w hg l c t hop w.heap.size e i _ 1 h1 h2 h3 h4 kl kc A C n hl hc hA hC b2 (by unfold maxLen;exact b3) (Nat.le_refl _) ?_;intro w' hown hgr;rw[qHE]at hown;have hblk:Blk w' w.heap.size e k (List.replicate n 0):=by
  rcases hown.2 with ⟨hv,_⟩|⟨g,cap,cur,hv,_,hb,hn,hm,hs,ht⟩
  ·cases hv
  ·injection hv with hv1 hv2 hv3
   injection hv1 with hv1;injection hv1 with hv1;subst hv1 hv3;unfold Blk;rw[hb];have:cur.toList=(List.replicate n 0).map (iv k):=by
    rw[<-ht,List.take_of_length_le];rw[Array.length_toList,hs];exact Nat.le_refl _
   rw[<-this]
 exact hK w' hblk (qDO hgr) hblk.lt
theorem qAd.cells{k:IntKind}{w:World}{a:Option Addr}{n cap:Nat}{L:List Nat}(h:qAd k w (.slice a n cap) L)(h0:0<L.length):∃ad,a=some ad/\∀j u,(L.map (iv k))[j]? =some u->w.cell? (ad.add j)=some u:=by
 obtain⟨a',cap',hv,_,_,hc⟩:=h;injection hv with e1 e2 e3;subst e1;obtain⟨b,off,rfl,hb,hcc⟩:=hc h0;refine⟨_,rfl,fun j u hu=> ?_⟩;have hj:j<L.length:=by
  rcases Nat.lt_or_ge j L.length with h|h
  ·exact h
  ·rw[List.getElem?_eq_none (by rw[List.length_map];exact h)]at hu;cases hu
 have hadd:(⟨b,off,none⟩:Addr).add j=⟨b,off+j,none⟩:=by unfold Addr.add;split<;>simp_all
 rw[List.getElem?_map,List.getElem?_eq_getElem hj]at hu;rw[hadd,hcc j hj];exact hu
def One(w:World)(b:Nat)(t:TypeId)(v:Value):Prop:=w.heap[b]? =some (.cells #[v] t (0,0))
section
variable {w w':World}{b:Nat}{t:TypeId}{v:Value}
theorem One.lt(h:One w b t v):b<w.heap.size:=by
 rcases Nat.lt_or_ge b w.heap.size with hlt|hge
 ·exact hlt
 ·unfold One at h;rw[Array.getElem?_eq_none hge]at h;cases h
theorem One.cell(h:One w b t v):w.cell? ⟨b,0,none⟩=some v:=by
 rw[cell_of_row w b 0 _ t (0,0) h];rfl
theorem One.frozen(h:One w b t v):w.frozen? ⟨b,0,none⟩=false:=by
 unfold One at h;simp[World.frozen?,h]
theorem One.below{B:Nat}(h:One w b t v)(hb:Below B w w')(hg:b<B):One w' b t v:=(hb.block b hg).trans h
theorem One.set(h:One w b t v)(u:Value):One (w.setCell ⟨b,0,none⟩ u) b t u:=by
 unfold One at h ⊢;simp[World.setCell,Array.getElem?_modify,h]
theorem One.far(h:One w b t v){p:Addr}(hp:b≠p.block)(u:Value):One (w.setCell p u) b t v:=(Below.heap_setCell w p u b hp).trans h
theorem One.drewN(h:One w b t v)(n:Nat):One (w.drewN n) b t v:=h
theorem One.drew(h:One w b t v):One w.drew b t v:=h
theorem One.new(w:World)(t:TypeId)(v:Value):One (w.alloc (.cells #[v] t)) w.heap.size t v:=heap_alloc_new w _
theorem One.alloc(h:One w b t v)(o:Obj):One (w.alloc o) b t v:=(Below.heap_alloc w o b h.lt).trans h
end
structure qAc(S:Nat->Prop)(w w':World):Prop where
 os:w'.os=w.os
 tape:w'.tape=w.tape
 output:w'.output=w.output
 size:w.heap.size<=w'.heap.size
 block:∀k,k<w.heap.size->¬S k->w'.heap[k]? =w.heap[k]?
section
variable {S S':Nat->Prop}{w w' w'':World}
theorem qAc.refl(S:Nat->Prop)(w:World):qAc S w w:=⟨rfl,rfl,rfl,Nat.le_refl _,fun _ _ _=>rfl⟩
theorem qAc.trans(h:qAc S w w')(h':qAc S w' w''):qAc S w w'':=
 ⟨h'.os.trans h.os,h'.tape.trans h.tape,h'.output.trans h.output,Nat.le_trans h.size h'.size,fun k hk hS=>(h'.block k (Nat.lt_of_lt_of_le hk h.size) hS).trans (h.block k hk hS)⟩
theorem qAc.mono(h:qAc S w w')(hS:∀k,S k->S' k):qAc S' w w':=⟨h.os,h.tape,h.output,h.size,fun k hk hn=>h.block k hk (fun hs=>hn (hS k hs))⟩
theorem qAc.set(h:qAc S w w'){p:Addr}(hp:S p.block)(u:Value):qAc S w (w'.setCell p u):=
 ⟨h.os,h.tape,h.output,by rw[show(w'.setCell p u).heap.size=w'.heap.size by simp[World.setCell]];exact h.size,fun k hk hn=>(Below.heap_setCell w' p u k (fun e=>hn (e▸hp))).trans (h.block k hk hn)⟩
theorem qAc.drew(h:qAc S w w'):qAc S w w'.drew:=⟨h.os,h.tape,h.output,h.size,h.block⟩
theorem qAc.drewN(h:qAc S w w')(n:Nat):qAc S w (w'.drewN n):=⟨h.os,h.tape,h.output,h.size,h.block⟩
theorem qAc.of_below(h:Below w.heap.size w w'):qAc S w w':=⟨h.os,h.tape,h.output,h.size,fun k hk _=>h.block k hk⟩
theorem qAc.below{B:Nat}{w0:World}(h:qAc S w w')(hb:Below B w0 w)(hB:B<=w.heap.size)(hS:∀k,S k->B<=k):Below B w0 w':=
 ⟨h.os.trans hb.os,h.tape.trans hb.tape,h.output.trans hb.output,Nat.le_trans hb.size h.size,fun k hk=>(h.block k (by omega) (fun hs=>by have:=hS k hs;omega)).trans (hb.block k hk)⟩
theorem qAc.cell(h:qAc S w w'){p:Addr}(hp:¬S p.block)(hl:p.block<w.heap.size):w'.cell? p=w.cell? p:=World.cell?_of_block (w:=w) (h.block _ hl hp)
theorem qAc.row(h:qAc S w w'){k:IntKind}{v:Value}{L:List Nat}(hr:qAd k w v L)(hS:∀b off cap,v=.slice (some ⟨b,off,none⟩) L.length cap->¬S b):qAd k w' v L:=by
 obtain⟨a,cap,hv,h1,h2,hc⟩:=hr;refine⟨a,cap,hv,h1,h2,fun h0=> ?_⟩;obtain⟨b,off,ha,hlt,hcc⟩:=hc h0;exact⟨b,off,ha,Nat.lt_of_lt_of_le hlt h.size,fun j hj=>(h.cell (p:=⟨b,off+j,none⟩) (hS b off cap (by rw[hv,ha])) hlt).trans (hcc j hj)⟩
theorem qAc.blk(h:qAc S w w'){g:Nat}{t:TypeId}{k:IntKind}{L:List Nat}(hb:Blk w g t k L)(hS:¬S g):Blk w' g t k L:=(h.block g hb.lt hS).trans hb
theorem qAc.one(h:qAc S w w'){g:Nat}{t:TypeId}{v:Value}(hb:One w g t v)(hS:¬S g):One w' g t v:=(h.block g hb.lt hS).trans hb
end
theorem qB9{P:Program}{w:World}{ops:Array Oper}{rest:List Oper}{o:Oper}{a:Act}{Q:Exit->Act->World->Prop}(hgd:o.guard=none)(d s:Operand)(T:TypeId)
 (ho:o.op=.call { callee:=.builtin .copy,args:=#[d,s],argTypes:=#[T,T] })(e:TypeId)(hu:P.underlying T=some (.slice e))(hsz:(P.info? e).map (·.size)=some 1)
 (k:IntKind)(g N cap:Nat)(L0 L:List Nat)(sp:Option Addr)(n scap:Nat)(hd:a.eval d=.slice (some ⟨g,0,none⟩) N cap)(hs:a.eval s=.slice sp n scap)(hblk:Blk w g e k L0)(hL0:L0.length=N)(hL:L.length=n)(hle:n<=N)
 (hrow:qAd k w (.slice sp n scap) L)
 (h:∀w',Blk w' g e k (L++L0.drop L.length)->qAc (fun b=>b=g) w w'->w'.heap.size=w.heap.size->wpList P ops Q rest (a.put o.dst (goInt L.length)) w'):wpList P ops Q (o::rest) a w:=by
 have hlm:(L.map (iv k)).length=L.length:=List.length_map _;have hmin:Nat.min n N=n:=Nat.min_eq_left hle;by_cases h0:L.length=0
 ·have hnil:L=[]:=List.eq_nil_of_length_eq_zero h0
  refine wpList_copy_nothing hgd d s T T ho e hu hsz _ sp N cap n scap hd hs (by rw[hmin];omega) ?_;have:=h w (by rw[hnil];simpa using hblk) (qAc.refl _ _) rfl;rw[h0]at this;exact this
 ·obtain⟨ad,rfl,hsrc⟩:=hrow.cells (by omega)
  refine wpList_copy_own hgd d s T T ho e hu hsz g 0 N cap ad n scap hd hs (L0.map (iv k)).toArray e hblk (L.map (iv k)) (by rw[hlm,hmin,hL]) hsrc (by rw[hlm,List.size_toArray,List.length_map];omega) ?_ ?_
  ·intro u hu
   obtain⟨x,_,rfl⟩:=List.mem_map.1 hu;rfl
  ·have hset:Blk (w.setRow g (((L0.map (iv k)).toArray.toList.take 0++(L.map (iv k)++(L0.map (iv k)).toArray.toList.drop (0+(L.map (iv k)).length))).toArray)) g e k (L++L0.drop L.length):=by
    unfold Blk;rw[setRow_heap w g _ _ e _ hblk];simp
   have:=h _ hset ⟨rfl,rfl,rfl,by simp[World.setRow],fun b hb hne=> ?_⟩ (by simp[World.setRow])
   ·rw[hlm]at this ⊢
    exact this
   ·simp[World.setRow,Array.getElem?_modify,Ne.symm hne]
theorem aR{w:World}{o:Obj}:Below w.heap.size w (w.alloc o):=(Below.refl _ _).alloc (Nat.le_refl _) _
theorem hZ{p:Prop}(h:p):Go.RowKit.Hid p:=Go.Lib.hid h
theorem _root_.Go.RowKit.Hid.o{p:Prop}(h:Go.RowKit.Hid p):p:=h
theorem aB{w w':World}{o:Obj}(h:w.alloc o=w'):Below w.heap.size w w':=by subst h;exact(Below.refl _ _).alloc (Nat.le_refl _) _
theorem dB{w w':World}(h:w.drew=w'):Below w.heap.size w w':=by subst h;exact(Below.refl _ _).drew
theorem bT{w0 w w':World}(h:Hid (Below w0.heap.size w0 w))(hB:Below w.heap.size w w'):Hid (Below w0.heap.size w0 w'):=hZ (h.out.trans (hB.mono h.out.size))
theorem oT{S:Nat->Prop}{w0 w w':World}(h:Hid (qAc S w0 w))(hB:Below w.heap.size w w'):Hid (qAc S w0 w'):=hZ (h.out.trans (qAc.of_below hB))
class Mv(w w':World)(p:Prop)(q:outParam Prop):Prop where
  mv:Below w.heap.size w w'->p->q
theorem _root_.Go.RowKit.Hid.b{w w':World}{p q:Prop}[i:Mv w w' p q](h:Go.RowKit.Hid p)(hB:Below w.heap.size w w'):Go.RowKit.Hid q:=hZ (i.mv hB h.out)
theorem eX{α:Sort _}(a:α):∃x,a=x:=⟨_,rfl⟩
theorem eY{α:Sort _}(a:α):∃x,x=a:=⟨_,rfl⟩
theorem cF{w:World}{b o:Nat}{v:Value}(e:w.cell? ⟨b,o,none⟩=some v)(l:b<w.heap.size):∀w',qAc (fun _=>False) w w'->w'.cell? ⟨b,o,none⟩=some v:=fun _ h=>(h.cell (p:=⟨b,o,none⟩) (fun h=>h) l).trans e
theorem cT{S:Nat->Prop}{w:World}{b o:Nat}{v:Value}(n:¬S b)(e:w.cell? ⟨b,o,none⟩=some v)(l:b<w.heap.size):∀w',qAc S w w'->w'.cell? ⟨b,o,none⟩=some v:=fun _ h=>(h.cell (p:=⟨b,o,none⟩) n l).trans e
abbrev Tx:=List UInt8
def dch(d:Nat):UInt8:=UInt8.ofNat (48+d)
def qLY(n:Nat):Tx:=(qAm 10 n).reverse.map dch
def dec(n:Nat):Tx:=if n=0 then [48]else qLY n
def qRY(z:Int):Tx:=if z<0 then 45::dec z.natAbs else dec z.natAbs
def pad:Nat->Nat->Tx
 |0,_=>[]
 |k+1,n=>pad k (n/10)++[dch (n%10)]
theorem qGj:qLY 0=[]:=rfl
theorem qEn(n:Nat)(h:n≠0):qLY n=qLY (n/10)++[dch (n%10)]:=by
 unfold qLY;rw[qBt 10 n (by omega) h,List.reverse_cons,List.map_append];rfl
theorem qHb:∀(k q r:Nat),q≠0->r<10^k->qLY (q*10^k+r)=qLY q++pad k r
 |0,q,r,_,hr=>by
  have:r=0:=by simpa using hr
  subst this;simp[pad]
 |k+1,q,r,hq,hr=>by
  have h10:10^(k+1)=10*10^k:=by rw[Nat.pow_succ,Nat.mul_comm]
  have hp:0<10^k:=Nat.pow_pos (by omega);have hqp:0<q*10^k:=Nat.mul_pos (by omega) hp;have e0:q*10^(k+1)=10*(q*10^k):=by rw[h10];grind
  have e1:(q*10^(k+1)+r)/10=q*10^k+r/10:=by omega
  have e2:(q*10^(k+1)+r)%10=r%10:=by omega
  rw[qEn _ (by omega),e1,e2,qHb k q (r/10) hq (by omega),pad,List.append_assoc]
theorem qJI:∀(k n:Nat),(pad k n).length=k
 |0,_=>rfl
 |k+1,n=>by rw[pad,List.length_append,qJI k];rfl
theorem qHw:∀k,pad k 0=List.replicate k 48
 |0=>rfl
 |k+1=>by rw[pad,qHw k,List.replicate_succ'];rfl
theorem qHx:∀(k r:Nat),r<10^k->pad k r=List.replicate (k-(qLY r).length) 48++qLY r/\(qLY r).length<=k
 |0,r,hr=>by
  have:r=0:=by simpa using hr
  subst this;simp[pad,qGj]
 |k+1,r,hr=>by
  have h10:10^(k+1)=10*10^k:=by rw[Nat.pow_succ,Nat.mul_comm]
  by_cases h:r=0
  ·subst h
   rw[qHw];simp[qGj]
  ·have ih:=qHx k (r/10) (by omega)
   rw[qEn r h,pad,ih.1,List.length_append,List.length_singleton,List.append_assoc];refine⟨?_,by omega⟩
   congr 2
   omega
theorem qMU(k r:Nat)(hk:0<k)(hr:r<10^k):pad k r=List.replicate (k-(dec r).length) 48++dec r/\(dec r).length<=k:=by
 unfold dec;by_cases h:r=0
 ·subst h
  rw[if_pos rfl,qHw];refine⟨?_,hk⟩;obtain⟨k,rfl⟩:∃m,k=m+1:=⟨k-1,by omega⟩;rw[List.replicate_succ'];rfl
 ·rw[if_neg h];exact qHx k r hr
theorem qNX(k q r:Nat)(hq:q≠0)(hr:r<10^k):dec (q*10^k+r)=dec q++pad k r:=by
 have hp:0<10^k:=Nat.pow_pos (by omega);have hqp:0<q*10^k:=Nat.mul_pos (by omega) hp;unfold dec;rw[if_neg (by omega),if_neg hq,qHb k q r hq hr]
def grp(k:Nat):List Nat->Tx
 |[]=>[]
 |[x]=>dec x
 |x::y::l=>grp k (y::l)++pad k x
theorem qNu(k:Nat)(hk:0<k):∀l:List Nat,l≠[]->Low (10^k) l->l.getLast? ≠some 0\/l=[0]->grp k l=dec (val (10^k) l)
 |[],h,_,_=>absurd rfl h
 |[x],_,_,_=>by show dec x=dec (x+10^k*0);simp
 |x::y::l,_,hl,hlast=>by
  have h2:2<=10^k:=by
   have:10^1<=10^k:=Nat.pow_le_pow_right (by omega) hk;omega
  have hlast':(y::l).getLast? ≠some 0:=by
   rcases hlast with h|h
   ·rw[List.getLast?_cons_cons]at h;exact h
   ·cases h
  have hl':Low (10^k) (y::l):=fun z hz=>hl z (List.mem_cons_of_mem _ hz);have ih:=qNu k hk (y::l) (by simp) hl' (.inl hlast');have hv:val (10^k) (y::l)≠0:=by
   intro h;have:=qFP (10^k) h2 (y::l) hl' hlast';rw[h]at this;cases this
  have hv2:val (10^k) (x::y::l)=val (10^k) (y::l)*10^k+x:=by
   show x+10^k*val (10^k) (y::l)=_
   rw[Nat.add_comm,Nat.mul_comm]
  rw[grp,ih,hv2,qNX k _ x hv (hl x (List.mem_cons_self ..))]
theorem qHa(n k:Nat)(hk:0<k)(h:n<10^k):(dec n).length<=k:=(qMU k n hk h).2
abbrev W2:Nat:=4294967296
theorem qAk:2<=W2:=by decide
theorem qGS(v:Value)(L:List Nat)(w:World)(h:qAd .u32 w v L)(hlow:Low W2 L)(hlen:L.length<=4611686018427387904):
 Calls Tryz.prog 136 #[v] w fun e w'=>∃v',e=.returned v'/\qAd .u32 w v' (qAm W2 (val W2 L))/\w=w'/\∀a n c,v=.slice a n c->∃n',v'=.slice a n' c:=by
 have Htake:=hZ (fun n hn=>h.take n hn);obtain⟨a,cap,rfl,h1,h2,hc⟩:=h;have Hc:=hZ hc;have Hlow:=hZ hlow;clear hc hlow;obtain⟨N,hN⟩:=eX L.length;have HN:=hZ hN;rw[hN]at h1 hlen ⊢;clear hN
 go_enter Tryz.func136,Tryz.ntmps136
 go_wp2
 go_loop [3] (fun i=>∃n:Nat,n<=N/\i=.int .i64 n/\Hid (∀j (h:j<L.length),n<=j->L[j]=0)) (fun i=>(intOf i).toNat)
 case atStart=>exact⟨N,Nat.le_refl _,rfl,hZ (fun j hj hn=>by rw[HN.o]at hj;omega)⟩
 case round=>
  obtain⟨n,hn,rfl,hz⟩:=hrel;have hdone:∀n:Nat,n<=N->(∀j (h:j<L.length),n<=j->L[j]=0)->(∀h:n-1<L.length,n=0\/L[n-1]≠0)->∃v',Ending.returned (.slice a n cap)=.returned v'/\qAd .u32 w v' (qAm W2 (val W2 L))/\∀a' n' c',Value.slice a N cap=.slice a' n' c'->∃n,v'=.slice a' n c':=by
   intro n hn hz hl;obtain⟨a',cap',hv,_,_,hr⟩:=Htake.o n (by rw[HN.o];exact hn);rw[HN.o]at hv;injection hv with e1 e2 e3;subst e1 e3;rw[qIf W2 qAk L Hlow.o n (by rw[HN.o];exact hn) hz hl]at hr;exact⟨_,rfl,hr,fun a' n' c' e=>by injection e with e1 _ e3;subst e1 e3;exact⟨_,rfl⟩⟩
  have Hd:=hZ hdone;clear hdone;by_cases h0:n=0
  ·subst h0
   go_wp2
   go_ret;obtain⟨v',e,hr,ht⟩:=Hd.o 0 hn hz.o (fun _=> .inl rfl);exact⟨v',e,hr,rfl,ht _ _ _ rfl⟩
  ·have hlt:n-1<L.length:=by rw[HN.o];omega
   obtain⟨b,off,rfl,hb,hcc⟩:=Hc.o (by rw[HN.o];omega);have hcell:=hcc (n-1) hlt;clear hcc;by_cases hzz:L[n-1]=0
   ·have hz2:Hid (∀j (h:j<L.length),n-1<=j->L[j]=0):=hZ (fun j hj hnj=>by
     by_cases e:j=n-1
     ·subst e;exact hzz
     ·exact hz.o j hj (by omega))
    rw[hzz]at hcell;clear hzz
    go_wp2
    go_round
    case rel=>exact⟨n-1,by omega,by go_num,hz2⟩
    case measure=>simp[intOf];omega
   ·have hne:(((L[n-1]:Nat):Int)==0)=false:=by simp;exact hzz
    go_wp2
    go_ret;obtain⟨v',e,hr,ht⟩:=Hd.o n hn hz.o (fun _=> .inr hzz);exact⟨v',e,hr,rfl,ht _ _ _ rfl⟩
theorem qCI(v:Value)(L:List Nat)(w:World)(h:qAd .u32 w v L)(hlow:Low W2 L)(hlen:L.length<=4611686018427387904):
 Calls Tryz.prog 136 #[v] w fun e w'=>∃v',e=.returned v'/\qAd .u32 w v' (qAm W2 (val W2 L))/\w=w':=
 (qGS v L w h hlow hlen).mono (fun _ _ ⟨v',h1,h2,h3,_⟩=>⟨v',h1,h2,h3⟩)
theorem qE6:(Tryz.prog.info? 151).map (fun i=>(i.zero,i.size,i.bytes))=some (some (.int .u32 0),1,4):=by kernel_rfl
theorem qMv:(Tryz.prog.info? 151).map (·.size)=some 1:=by kernel_rfl
theorem qEz(v:Value)(L:List Nat)(w:World)(h:qAd .u32 w v L)(hlen:L.length<=1099511627776):
 Calls Tryz.prog 137 #[v] w fun e w'=>e=.returned (.slice (some ⟨w.heap.size,0,none⟩) L.length L.length)/\Blk w' w.heap.size 151 .u32 L/\Below w.heap.size w w':=by
 obtain⟨i0,hi,hz0,hz1,hz2⟩:=info_parts qE6;have Hi:=hZ hi;have Hz0:=hZ hz0;have Hz1:=hZ hz1;have Hz2:=hZ hz2;clear hi hz0 hz1 hz2;have Hrow0:=hZ h;obtain⟨a,cap,rfl,h1,h2,_⟩:=h;obtain⟨N,hN⟩:=eX L.length;have HN:=hZ hN;rw[hN]at h1 hlen Hrow0 ⊢;clear hN
 go_enter Tryz.func137,Tryz.ntmps137
 go_wp2_with (at_make;refine qAD _ rfl _ _ 71 rfl 151 i0 .u32 Tryz.underlying71 Hi.o Hz0.o Hz1.o _ _ _ _ N rfl rfl rfl rfl (by rw[Hz2.o];omega) (by omega) ?_)
 intro w1 hblk hB1 hz1;have Hblk:=hZ hblk;have HB1:=hZ hB1;have Hrow:=hZ (Hrow0.o.below (Nat.le_refl _) hB1);clear hblk hB1 Hrow0
 go_wp2_with (with_reducible refine qB9 rfl (.tmp 7) (.tmp 8) 71 rfl 151 Tryz.underlying71 qMv .u32 w.heap.size N N (List.replicate N 0) L a N cap rfl rfl Hblk.o (List.length_replicate ..) HN.o (Nat.le_refl _) Hrow.o ?_)
 intro w2 hb2 hO2 _;have Hb2:=hZ hb2;have HB2:=hZ (hO2.below HB1.o (Nat.le_of_lt hz1) (fun b e=>by rw[e];exact Nat.le_refl _));clear hb2 hO2
 go_wp2
 go_ret;refine⟨rfl,?_,HB2.o⟩;have:=Hb2.o;rw[HN.o,Nat.sub_self,List.replicate_zero,List.append_nil]at this;exact this
def qAV(a b:Int):Int:=if a<b then -1 else if b<a then 1 else 0
theorem qL0(a b:Int)(w:World):Calls Tryz.prog 187 #[.int .i64 a,.int .i64 b] w fun e w'=>e=.returned (.int .i64 (qAV a b))/\w=w':=by
 have hn:∀(x:Int),Calls Tryz.prog 208 #[.int .i64 x] w fun e w'=>e=.returned (.bool false)/\w=w':=by
  intro x;have hx:(x != x)=false:=by simp
  go_enter Tryz.func208,Tryz.ntmps208
  go_wp2
  go_ret;exact⟨rfl,rfl⟩
 have Hn:=hZ hn;clear hn;rcases Int.lt_trichotomy a b with h|h|h
 ·have hc:Hid (qAV a b= -1):=hZ (by unfold qAV;rw[if_pos h])
  go_enter Tryz.func187,Tryz.ntmps187
  go_wp2_with (go_at_call 208;refine(Hn.o _).mono ?_;rintro e w' ⟨rfl,rfl⟩)
  go_ret;exact⟨by rw[hc.o];rfl,rfl⟩
 ·subst h
  have hc:Hid (qAV a a=0):=hZ (by unfold qAV;rw[if_neg (by omega),if_neg (by omega)])
  go_enter Tryz.func187,Tryz.ntmps187
  go_wp2_with (go_at_call 208;refine(Hn.o _).mono ?_;rintro e w' ⟨rfl,rfl⟩)
  go_ret;exact⟨by rw[hc.o];rfl,rfl⟩
 ·have hc:Hid (qAV a b=1):=hZ (by unfold qAV;rw[if_neg (by omega),if_pos h])
  have h':¬a<b:=by omega
  go_enter Tryz.func187,Tryz.ntmps187
  go_wp2_with (go_at_call 208;refine(Hn.o _).mono ?_;rintro e w' ⟨rfl,rfl⟩)
  go_ret;exact⟨by rw[hc.o];rfl,rfl⟩
theorem qLZ(a b:Int)(w:World):Calls Tryz.prog 188 #[.int .u32 a,.int .u32 b] w fun e w'=>e=.returned (.int .i64 (qAV a b))/\w=w':=by
 have hn:∀(x:Int),Calls Tryz.prog 209 #[.int .u32 x] w fun e w'=>e=.returned (.bool false)/\w=w':=by
  intro x;have hx:(x != x)=false:=by simp
  go_enter Tryz.func209,Tryz.ntmps209
  go_wp2
  go_ret;exact⟨rfl,rfl⟩
 have Hn:=hZ hn;clear hn;rcases Int.lt_trichotomy a b with h|h|h
 ·have hc:Hid (qAV a b= -1):=hZ (by unfold qAV;rw[if_pos h])
  go_enter Tryz.func188,Tryz.ntmps188
  go_wp2_with (go_at_call 209;refine(Hn.o _).mono ?_;rintro e w' ⟨rfl,rfl⟩)
  go_ret;exact⟨by rw[hc.o];rfl,rfl⟩
 ·subst h
  have hc:Hid (qAV a a=0):=hZ (by unfold qAV;rw[if_neg (by omega),if_neg (by omega)])
  go_enter Tryz.func188,Tryz.ntmps188
  go_wp2_with (go_at_call 209;refine(Hn.o _).mono ?_;rintro e w' ⟨rfl,rfl⟩)
  go_ret;exact⟨by rw[hc.o];rfl,rfl⟩
 ·have hc:Hid (qAV a b=1):=hZ (by unfold qAV;rw[if_neg (by omega),if_pos h])
  have h':¬a<b:=by omega
  go_enter Tryz.func188,Tryz.ntmps188
  go_wp2_with (go_at_call 209;refine(Hn.o _).mono ?_;rintro e w' ⟨rfl,rfl⟩)
  go_ret;exact⟨by rw[hc.o];rfl,rfl⟩
theorem qGm{a b:Int}(h:a<b):qAV a b= -1:=by unfold qAV;rw[if_pos h]
theorem qER{a b:Int}(h:b<a):qAV a b=1:=by unfold qAV;rw[if_neg (by omega),if_pos h]
theorem qA7(a:Int):qAV a a=0:=by unfold qAV;rw[if_neg (by omega),if_neg (by omega)]
theorem qQW(m n:Nat)(h:(qAm W2 m).length≠(qAm W2 n).length):qAV ((qAm W2 m).length:Int) ((qAm W2 n).length:Int)=qAV (m:Int) (n:Int):=by
 rcases Nat.lt_or_gt_of_ne h with h|h
 ·rw[qGm (by omega),qGm (by have:=qIE W2 qAk m n h;omega)]
 ·rw[qER (by omega),qER (by have:=qIE W2 qAk n m h;omega)]
theorem qNS{A B:List Nat}{n:Nat}(hn:n-1<A.length)(hm:n-1<B.length)(h0:0<n)(hd:A.drop n=B.drop n)(he:A[n-1]=B[n-1]):A.drop (n-1)=B.drop (n-1):=by
 rw[List.drop_eq_getElem_cons hn,List.drop_eq_getElem_cons hm,he,Nat.sub_add_cancel h0,hd]
theorem qRN(m n i:Nat)(h1:i-1<(qAm W2 m).length)(h2:i-1<(qAm W2 n).length)(h0:0<i)(hd:(qAm W2 m).drop i=(qAm W2 n).drop i)(hne:(qAm W2 m)[i-1]≠(qAm W2 n)[i-1]):
 qAV ((qAm W2 m)[i-1]:Int) ((qAm W2 n)[i-1]:Int)=qAV (m:Int) (n:Int):=by
 have e:i-1+1=i:=Nat.sub_add_cancel h0;rcases Nat.lt_or_gt_of_ne hne with h|h
 ·have:=qIc W2 qAk _ _ (qAv W2 qAk m) (i-1) h1 h2 (by rw[e];exact hd) h
  rw[qAu W2 qAk,qAu W2 qAk]at this;rw[qGm (by omega),qGm (by omega)]
 ·have:=qIc W2 qAk _ _ (qAv W2 qAk n) (i-1) h2 h1 (by rw[e];exact hd.symm) h
  rw[qAu W2 qAk,qAu W2 qAk]at this;rw[qER (by omega),qER (by omega)]
theorem qCi(va vb:Value)(m n:Nat)(w:World)(ha:qAd .u32 w va (qAm W2 m))(hb:qAd .u32 w vb (qAm W2 n))(hl1:(qAm W2 m).length<=4611686018427387904)(_hl2:(qAm W2 n).length<=4611686018427387904):
 Calls Tryz.prog 153 #[va,vb] w fun e w'=>e=.returned (.int .i64 (qAV (m:Int) (n:Int)))/\∃d,w'=w.drewN d:=by
 obtain⟨a,cap,rfl,h1,h2,hc⟩:=ha;obtain⟨a',cap',rfl,h1',h2',hc'⟩:=hb;have Hc:=hZ hc;have Hc':=hZ hc';clear hc hc';by_cases hne:(qAm W2 m).length=(qAm W2 n).length
 ·obtain⟨N,hN⟩:=eX ((qAm W2 m).length)
  have HN:=hZ hN;have HM:=hZ (hne.symm.trans hN);rw[hne.symm.trans hN]at h1' _hl2 ⊢;rw[hN]at h1 hl1 ⊢;clear hN hne
  go_enter Tryz.func153,Tryz.ntmps153
  go_wp2
  go_loopw [5] (fun i wr=>∃k d:Nat,k<=N/\i=.int .i64 ((k:Int)-1)/\Hid ((qAm W2 m).drop k=(qAm W2 n).drop k)/\Hid (wr=w.drewN d)) (fun i _=>(intOf i+1).toNat)
  case atStart=>exact⟨N,0,Nat.le_refl _,rfl,hZ (by rw[List.drop_of_length_le (by rw[HN.o];exact Nat.le_refl _),List.drop_of_length_le (by rw[HM.o];exact Nat.le_refl _)]),hZ rfl⟩
  case round=>
   obtain⟨k,d,hk,rfl,hd,hw⟩:=hrel;have hw':=hw.o;subst hw';clear hw;by_cases h0:k=0
   ·subst h0
    have he:Hid (qAV (m:Int) (n:Int)=0):=hZ (by
     have:=hd.o;rw[List.drop_zero,List.drop_zero]at this;have h3:m=n:=by rw[<-qAu W2 qAk m,<-qAu W2 qAk n,this]
     rw[h3,qA7])
    go_wp2
    go_ret;exact⟨by rw[he.o];rfl,d,rfl⟩
   ·have q1:k-1<(qAm W2 m).length:=by rw[HN.o];omega
    have q2:k-1<(qAm W2 n).length:=by rw[HM.o];omega
    obtain⟨b,off,rfl,hb,hcc⟩:=Hc.o (by omega);obtain⟨b',off',rfl,hb',hcc'⟩:=Hc'.o (by omega);have c1:=hcc (k-1) q1;have c2:=hcc' (k-1) q2;clear hcc hcc';have i0:(0:Int)<=(k:Int)-1:=by omega
    have i1:(k:Int)-1<(N:Int):=by omega
    have i2:((k:Int)-1).toNat=k-1:=by omega
    by_cases he:(qAm W2 m)[k-1]=(qAm W2 n)[k-1]
    ·have Hd2:=hZ (qNS q1 q2 (by omega) hd.o he)
     rw[he]at c1;generalize (qAm W2 n)[k-1]=z at *;clear he
     go_wp2
     go_quiet (fail)
     go_wp2
     go_roundw
     case rel=>exact⟨k-1,_,by omega,by go_num,Hd2,hZ rfl⟩
     case measure=>simp[intOf];omega
    ·have Hca:=hZ (qRN m n k q1 q2 (by omega) hd.o he)
     have hx:((((qAm W2 m)[k-1]:Nat):Int) != (((qAm W2 n)[k-1]:Nat):Int))=true:=by simp only[bne_iff_ne,ne_eq];omega
     clear he;generalize (qAm W2 n)[k-1]=z at *;generalize (qAm W2 m)[k-1]=y at *
     go_wp2
     go_quiet (fail)
     obtain⟨W3,hW3⟩:=eX ((w.drewN d).drewN nq);have c3:W3.cell? ⟨b,off+(k-1),none⟩=some (.int .u32 (y:Int)):=by rw[<-hW3];exact c1
     have c4:W3.cell? ⟨b',off'+(k-1),none⟩=some (.int .u32 (z:Int)):=by rw[<-hW3];exact c2
     have HW3:=hZ hW3;rw[hW3];clear hW3 c1 c2
     go_wp2
     go_quiet ((go_at_call 188;exact Calls.quiet_of_same ((qLZ _ _ _).mono fun _ _ h=>⟨h.1,h.2.symm⟩)))
     go_wp2
     go_ret;exact⟨by rw[<-Hca.o];rfl,_,by rw[<-HW3.o,World.drewN_drewN,World.drewN_drewN]⟩
 ·have Hcl:=hZ (qQW m n hne)
  have hx:((((qAm W2 m).length:Nat):Int) != (((qAm W2 n).length:Nat):Int))=true:=by simp only[bne_iff_ne,ne_eq];omega
  have hx2:((qAm W2 m).length != (qAm W2 n).length)=true:=by simpa using hne
  clear hne Hc Hc';generalize (qAm W2 m).length=N at *;generalize (qAm W2 n).length=M at *
  go_enter Tryz.func153,Tryz.ntmps153
  go_wp2_with (go_at_call 187;refine(qL0 _ _ _).mono ?_;rintro e w' ⟨rfl,rfl⟩)
  go_ret;exact⟨by rw[<-Hcl.o];rfl,0,rfl⟩
theorem qDc(L:List Nat)(k c x:Nat)(h:k<L.length):val W2 (L.set k ((c+(L[k]+x))%W2))+(c+(L[k]+x))/W2*W2^(k+1)=val W2 L+(c+x)*W2^k:=by
 have h1:=qCu W2 L k ((c+(L[k]+x))%W2) h;have h2:=Nat.div_add_mod (c+(L[k]+x)) W2;rw[Nat.pow_succ];generalize (c+(L[k]+x))%W2=r at *;generalize (c+(L[k]+x))/W2=q at *;generalize W2^k=p at *;generalize L[k]=s at *;generalize val W2 L=v at *;generalize val W2 (L.set k r)=v' at *;generalize W2=B at *
 grind
theorem qFm(i N g cb sb c x:Nat)(L:List Nat)(w:World)(hL:L.length=N)(hi:i<L.length)(_hN:N<=1099511627776)(hblk:Blk w g 151 .u32 L)(hcb:One w cb 173 (.int .u64 (c:Int)))(hsb:One w sb 71 (.slice (some ⟨g,0,none⟩) N N))
 (h1:cb≠g)(h2:sb≠g)(h3:sb≠cb)(hc:c<=4294967296)(hx:x<4294967296)(hlow:Low W2 L):
 Calls Tryz.prog 162 #[.int .i64 (i:Int),.int .u32 (x:Int),.pointer (some ⟨cb,0,none⟩),.pointer (some ⟨sb,0,none⟩)] w fun e w'=>(∃v,e=.returned v)/\
  Blk w' g 151 .u32 (L.set i ((c+(L[i]+x))%W2))/\One w' cb 173 (.int .u64 (((c+(L[i]+x))/W2:Nat):Int))/\One w' sb 71 (.slice (some ⟨g,0,none⟩) N N)/\qAc (fun k=>k=g\/k=cb) w w':=by
 have Hblk:=hZ hblk;have Hcb:=hZ hcb;have Hsb:=hZ hsb;have e1:=hblk.cell i hi;have e2:=hblk.frozen i;have e3:=hcb.cell;have e4:=hcb.frozen;have e5:=hsb.cell;have hs:L[i]<4294967296:=hlow _ (List.getElem_mem hi);clear hblk hcb hsb hlow;have hi2:i<N:=by omega
 have HL:=hZ hL;clear hL;generalize hS:L[i]=s at *;have HS:=hZ hS;clear hS;have b1:IntKind.u64.wrap ((s:Int)+x)=(s:Int)+x:=IntWalk.u64_in _ (by omega);have b2:IntKind.u64.wrap ((c:Int)+((s:Int)+x))=(c:Int)+((s:Int)+x):=IntWalk.u64_in _ (by omega)
 go_enter Tryz.func162,Tryz.ntmps162
 go_wp2
 go_region
 go_wp2
 go_end0
 have hr:(((c+(s+x))%W2:Nat):Int)=((c:Int)+((s:Int)+x))%4294967296:=by simp
 have hq:(((c+(s+x))/W2:Nat):Int)=((c:Int)+((s:Int)+x))/4294967296:=by simp
 rw[<-hr,<-hq];refine⟨⟨_,rfl⟩,?_,?_,?_,?_⟩
 ·exact(((Hblk.o.far (p:=⟨cb,0,none⟩) (Ne.symm h1) _).set i _).far (p:=⟨cb,0,none⟩) (Ne.symm h1) _).drew
 ·exact((((Hcb.o.set _).far (p:=⟨g,i,none⟩) h1 _).set _)).drew
 ·exact(((Hsb.o.far (p:=⟨cb,0,none⟩) h3 _).far (p:=⟨g,i,none⟩) h2 _).far (p:=⟨cb,0,none⟩) h3 _).drew
 ·exact((((qAc.refl _ w).set (p:=⟨cb,0,none⟩) (Or.inr rfl) _).set (p:=⟨g,i,none⟩) (Or.inl rfl) _).set (p:=⟨cb,0,none⟩) (Or.inr rfl) _).drew
structure qCF(X Y:List Nat)(N k c:Nat)(L:List Nat):Prop where
 len:L.length=N+1
 low:Low W2 L
 c1:c<=1
 eq:val W2 L+c*W2^k=val W2 X+val W2 (Y.take k)
theorem qCF.start(X Y:List Nat)(N:Nat)(hN:X.length=N)(hX:Low W2 X):qCF X Y N 0 0 (X++[0]):=
 ⟨by simp[hN],qEH hX (fun x hx=>by rw[List.mem_singleton.1 hx];decide),by omega,by rw[qA4];simp[val]⟩
theorem qCF.carry{X Y:List Nat}{N k c:Nat}{L:List Nat}(h:qCF X Y N k c L)(hk:k<L.length)(y:Nat)(hy:y<W2):(c+(L[k]+y))/W2<=1:=by
 have h1:L[k]<W2:=h.low _ (List.getElem_mem hk);have h2:=h.c1;have:c+(L[k]+y)<2*W2:=by unfold W2 at *;omega
 have:=(Nat.div_lt_iff_lt_mul (show 0<W2 by decide)).2 this;omega
theorem qCF.next{X Y:List Nat}{N k c:Nat}{L:List Nat}(h:qCF X Y N k c L)(hk:k<L.length)(hy:k<Y.length)(hY:Low W2 Y):
 qCF X Y N (k+1) ((c+(L[k]+Y[k]))/W2) (L.set k ((c+(L[k]+Y[k]))%W2)):=by
 refine⟨by rw[List.length_set];exact h.len,qBe h.low _ _ (Nat.mod_lt _ (by decide)),h.carry hk _ (hY _ (List.getElem_mem hy)),?_⟩;rw[qDc L k c Y[k] hk,qAj W2 Y k hy,Nat.add_mul];have:=h.eq;omega
theorem qCF.over{X Y:List Nat}{N k c:Nat}{L:List Nat}(h:qCF X Y N k c L)(hk:k<L.length)(hy:Y.length<=k):
 qCF X Y N (k+1) ((c+(L[k]+0))/W2) (L.set k ((c+(L[k]+0))%W2)):=by
 refine⟨by rw[List.length_set];exact h.len,qBe h.low _ _ (Nat.mod_lt _ (by decide)),h.carry hk _ (by decide),?_⟩;rw[qDc L k c 0 hk,Nat.add_zero,List.take_of_length_le (by omega)];have:=h.eq;rw[List.take_of_length_le hy]at this;exact this
theorem qCF.room{X Y:List Nat}{N k c:Nat}{L:List Nat}(h:qCF X Y N k c L)(hX:Low W2 X)(hY:Low W2 Y)(hN:X.length=N)(hM:Y.length<=N)(hk:k<=N+1)(hy:Y.length<=k)(hc:c≠0):k<N+1:=by
 rcases Nat.lt_or_ge k (N+1)with h1|h1
 ·exact h1
 ·have hk1:k=N+1:=by omega
  subst hk1;have h2:=h.eq;rw[List.take_of_length_le hy]at h2;have h3:=qBP W2 (by decide) X hX;have h4:=qBP W2 (by decide) Y hY;have h5:W2^Y.length<=W2^N:=Nat.pow_le_pow_right (by decide) hM;rw[hN]at h3;have h6:1*W2^(N+1)<=c*W2^(N+1):=Nat.mul_le_mul_right _ (by omega);have h7:W2^(N+1)=W2^N*W2:=Nat.pow_succ ..;have h8:2*W2^N<=W2^N*W2:=by rw[Nat.mul_comm];exact Nat.mul_le_mul_left _ (by decide)
  omega
theorem qCF.done{X Y:List Nat}{N k:Nat}{L:List Nat}(h:qCF X Y N k 0 L)(hy:Y.length<=k):val W2 L=val W2 X+val W2 Y:=by
 have:=h.eq;rw[List.take_of_length_le hy,Nat.zero_mul,Nat.add_zero]at this;exact this
theorem qQf(va vb:Value)(A B:List Nat)(w:World)(ha:qAd .u32 w va A)(hb:qAd .u32 w vb B)(hA:Low W2 A)(hB:Low W2 B)(hl:B.length<=A.length)(hlen:A.length<=1048576):
 Calls Tryz.prog 114 #[va,vb] w fun e w'=>∃v,e=.returned v/\qAd .u32 w' v (qAm W2 (val W2 A+val W2 B))/\Below w.heap.size w w':=by
 obtain⟨i0,hi,hz0,hz1,hz2⟩:=info_parts qE6;have Hi:=hZ hi;have Hz0:=hZ hz0;have Hz1:=hZ hz1;have Hz2:=hZ hz2;clear hi hz0 hz1 hz2;have HX0:=hZ ha;have HY0:=hZ hb;obtain⟨xa,xcap,hvx,x1,x2,_⟩:=ha;obtain⟨ya,ycap,hvy,y1,y2,hyc⟩:=hb;subst hvx hvy;have Hyc:=hZ hyc;have HlA:=hZ hA;have HlB:=hZ hB;have hYlow:=hB;clear hyc hA hB;obtain⟨N,hN⟩:=eX A.length;obtain⟨M,hM⟩:=eX B.length;have HN:=hZ hN;have HM:=hZ hM;rw[hN]at x1 HX0 hlen hl;rw[hM]at y1 HY0 hl;rw[hN,hM];clear hN hM;have hMl:M<=N:=by omega
 have HYl:=hZ hYlow;clear hYlow
 go_enter Tryz.func114,Tryz.ntmps114
 go_wp2_with (at_make;refine qAD _ rfl _ _ 71 rfl 151 i0 .u32 Tryz.underlying71 Hi.o Hz0.o Hz1.o _ _ _ _ (N+1) rfl rfl (by omega) (by omega) (by rw[Hz2.o];omega) (by omega) ?_)
 intro w1 hblk hB1 hz1;obtain⟨g,hg⟩:=eX w.heap.size;have Hg:=hZ hg;rw[hg]at hblk hB1 hz1 ⊢;clear hg;have Hblk1:=hZ (hblk.alloc (.cells #[.slice (some ⟨g,0,none⟩) (N+1) (N+1)] 71));have HB2:=hZ (hB1.alloc (Nat.le_of_lt hz1) (.cells #[.slice (some ⟨g,0,none⟩) (N+1) (N+1)] 71));have HX1:=hZ ((HX0.o.below (by rw[Hg.o];exact Nat.le_refl _) HB2.o));clear hblk hB1
 go_wp2_with (with_reducible refine qB9 rfl (.tmp 22) (.tmp 23) 71 rfl 151 Tryz.underlying71 qMv .u32 g (N+1) (N+1) (List.replicate (N+1) 0) A xa N xcap rfl rfl Hblk1.o (List.length_replicate ..) HN.o (Nat.le_succ _) HX1.o ?_)
 intro w3 hb3 hO3 hs3;obtain⟨sb,hsb⟩:=eX w1.heap.size;have hgs:g<sb:=by omega
 have hs3':w3.heap.size=sb+1:=by rw[<-hsb];simpa using hs3
 have Hsb3:=hZ (hO3.one (One.new w1 71 (.slice (some ⟨g,0,none⟩) (N+1) (N+1))) (by omega));have HB3:=hZ (hO3.below HB2.o (by simp;omega) (fun b e=>by rw[e];exact Nat.le_refl _));have HY3:=hZ (HY0.o.below (by rw[Hg.o];exact Nat.le_refl _) HB3.o);rw[hsb]at Hsb3 ⊢;have hL3:A++(List.replicate (N+1) 0).drop A.length=A++[0]:=by
  rw[HN.o,List.drop_replicate,show N+1-N=1 by omega];rfl
 have Hb3:Hid (Blk w3 g 151 .u32 (A++[0])):=hZ (by rw[<-hL3];simpa using hb3);clear hb3 hO3 hs3 hsb hL3 Hblk1 HB2 HX1 HX0
 go_wp2_with fail
 have hcb0:=One.new w3 173 (.int .u64 0);rw[hs3']at hcb0;obtain⟨w4,hw4⟩:=eX (w3.alloc (.cells #[.int .u64 0] 173));have Hb4:=hZ (Hb3.o.alloc (.cells #[.int .u64 0] 173));have Hsb4:=hZ (Hsb3.o.alloc (.cells #[.int .u64 0] 173));have HB4:=hZ (HB3.o.alloc (by omega) (.cells #[.int .u64 0] 173));have Hcb4:=hZ hcb0;rw[hw4]at Hb4 Hsb4 HB4 Hcb4 ⊢;have Hs4:Hid (w4.heap.size=sb+1+1):=hZ (by rw[<-hw4,World.size_alloc,hs3']);clear hcb0 hw4 Hb3 Hsb3 HB3 hs3' HY3;have HI0:=hZ (qCF.start A B N HN.o HlA.o)
 go_loopw [28] (fun i wr=>∃(k c:Nat) (L:List Nat),k<=M/\i=.int .i64 k/\Hid (qCF A B N k c L)/\Hid (Blk wr g 151 .u32 L)/\Hid (One wr (sb+1) 173 (.int .u64 (c:Int)))/\Hid (One wr sb 71 (.slice (some ⟨g,0,none⟩) (N+1) (N+1)))/\Hid (Below g w wr)) (fun i _=>M-(intOf i).toNat)
 case atStart=>exact⟨0,0,_,by omega,rfl,HI0,Hb4,Hcb4,Hsb4,HB4⟩
 case round=>
  obtain⟨k,c,L,hk,rfl,hI,hbl,hcb,hsb,hB⟩:=hrel;have hgw:=hbl.o.lt;by_cases hlt:k<M
  ·have hy:k<B.length:=by rw[HM.o];exact hlt
   have hkl:k<L.length:=by rw[hI.o.len];omega
   obtain⟨b,off,rfl,hb,hcc⟩:=Hyc.o (by omega);rw[Hg.o]at hb;have cy:=(hB.o.cell (p:=⟨b,off+k,none⟩) hb).trans (hcc k hy);have hyl:B[k]<4294967296:=HlB.o _ (List.getElem_mem hy);have Hnext:=hZ (hI.o.next hkl hy HlB.o);have hc1:=hI.o.c1;have Hp:=hZ (qFm k (N+1) g (sb+1) sb c B[k] L wr hI.o.len hkl (by omega) hbl.o hcb.o hsb.o (by omega) (by omega) (by omega) (by omega) hyl hI.o.low);clear hcc;generalize B[k]=y at *
   go_wp2_with (go_at_call 162;refine Hp.o.mono ?_;rintro e w5 ⟨⟨v5,rfl⟩,q1,q2,q3,q4⟩;have Q1:=hZ q1;have Q2:=hZ q2;have Q3:=hZ q3;have Q4:=hZ q4;clear q1 q2 q3 q4)
   go_roundw
   case rel=>exact⟨k+1,_,_,by omega,by go_num,Hnext,Q1,Q2,Q3,hZ (Q4.o.below hB.o (by omega) (fun b e=>by rcases e with e|e<;>omega))⟩
   case measure=>simp[intOf];omega
  ·obtain rfl:k=M:=by omega
   clear hlt
   go_wp2_with fail
   obtain⟨wo,rfl⟩:=eY wr
   go_loopw [10] (fun i wr=>∃(m c:Nat) (L:List Nat),k<=m/\m<=N+1/\i=.int .i64 m/\Hid (qCF A B N m c L)/\Hid (Blk wr g 151 .u32 L)/\Hid (One wr (sb+1) 173 (.int .u64 (c:Int)))/\Hid (One wr sb 71 (.slice (some ⟨g,0,none⟩) (N+1) (N+1)))/\Hid (Below g w wr)) (fun i _=>N+1-(intOf i).toNat)
   case atStart=>exact⟨k,c,L,Nat.le_refl _,by omega,rfl,hI,hbl,hcb,hsb,hB⟩
   case round=>
    clear hI hbl hcb hsb hB hgw;obtain⟨m,c2,L2,hm1,hm2,rfl,hI,hbl,hcb,hsb,hB⟩:=hrel;have hgw:=hbl.o.lt;have ccb:=hcb.o.cell;have hYk:B.length<=m:=by rw[HM.o];exact hm1
    by_cases hc0:c2=0
    ·subst hc0
     have csb:=hsb.o.cell;have hlen2:=hI.o.len;have Htr:=hZ (qCI (.slice (some ⟨g,0,none⟩) (N+1) (N+1)) L2 wr (by
      have:=qAd.of_blk hbl.o (cap:=N+1) (by omega) (by omega);rw[hlen2]at this;exact this) hI.o.low (by omega))
     rw[hI.o.done hYk]at Htr;clear hlen2
     go_wp2_with (go_at_call 136;refine Htr.o.mono ?_;rintro e w6 ⟨v6,rfl,q1,rfl⟩;have Q1:=hZ q1;clear q1)
     go_ret;exact⟨_,rfl,Q1.o,by rw[Hg.o];exact hB.o⟩
    ·have hmN:=hI.o.room HlA.o HlB.o HN.o (by rw[HM.o];omega) hm2 hYk hc0
     have hkl:m<L2.length:=by rw[hI.o.len];omega
     have Hnext:=hZ (hI.o.over hkl hYk);have hc1:=hI.o.c1;have Hp:=hZ (qFm m (N+1) g (sb+1) sb c2 0 L2 wr hI.o.len hkl (by omega) hbl.o hcb.o hsb.o (by omega) (by omega) (by omega) (by omega) (by omega) hI.o.low);have hcpos:0<c2:=by omega
     clear hc0
     go_wp2_with (go_at_call 162;refine Hp.o.mono ?_;rintro e w5 ⟨⟨v5,rfl⟩,q1,q2,q3,q4⟩;have Q1:=hZ q1;have Q2:=hZ q2;have Q3:=hZ q3;have Q4:=hZ q4;clear q1 q2 q3 q4)
     go_roundw
     case rel=>exact⟨m+1,_,_,by omega,by omega,by go_num,Hnext,Q1,Q2,Q3,hZ (Q4.o.below hB.o (by omega) (fun b e=>by rcases e with e|e<;>omega))⟩
     case measure=>simp[intOf];omega
theorem qQe(va vb:Value)(A B:List Nat)(w:World)(ha:qAd .u32 w va A)(hb:qAd .u32 w vb B)(hA:Low W2 A)(hB:Low W2 B)(hl:A.length<B.length)(hlen:B.length<=1048576):
 Calls Tryz.prog 114 #[va,vb] w fun e w'=>∃v,e=.returned v/\qAd .u32 w' v (qAm W2 (val W2 A+val W2 B))/\Below w.heap.size w w':=by
 obtain⟨i0,hi,hz0,hz1,hz2⟩:=info_parts qE6;have Hi:=hZ hi;have Hz0:=hZ hz0;have Hz1:=hZ hz1;have Hz2:=hZ hz2;clear hi hz0 hz1 hz2;have HX0:=hZ hb;have HY0:=hZ ha;obtain⟨xa,xcap,hvx,x1,x2,_⟩:=hb;obtain⟨ya,ycap,hvy,y1,y2,hyc⟩:=ha;subst hvx hvy;have Hyc:=hZ hyc;have HlA:=hZ hB;have HlB:=hZ hA;have hYlow:=hA;clear hyc hA hB;obtain⟨N,hN⟩:=eX B.length;obtain⟨M,hM⟩:=eX A.length;have HN:=hZ hN;have HM:=hZ hM;rw[hN]at x1 HX0 hlen hl;rw[hM]at y1 HY0 hl;rw[hN,hM];clear hN hM;have hMl:M<=N:=by omega
 have HYl:=hZ hYlow;clear hYlow
 go_enter Tryz.func114,Tryz.ntmps114
 go_wp2_with (at_make;refine qAD _ rfl _ _ 71 rfl 151 i0 .u32 Tryz.underlying71 Hi.o Hz0.o Hz1.o _ _ _ _ (N+1) rfl rfl (by omega) (by omega) (by rw[Hz2.o];omega) (by omega) ?_)
 intro w1 hblk hB1 hz1;obtain⟨g,hg⟩:=eX w.heap.size;have Hg:=hZ hg;rw[hg]at hblk hB1 hz1 ⊢;clear hg;have Hblk1:=hZ (hblk.alloc (.cells #[.slice (some ⟨g,0,none⟩) (N+1) (N+1)] 71));have HB2:=hZ (hB1.alloc (Nat.le_of_lt hz1) (.cells #[.slice (some ⟨g,0,none⟩) (N+1) (N+1)] 71));have HX1:=hZ ((HX0.o.below (by rw[Hg.o];exact Nat.le_refl _) HB2.o));clear hblk hB1
 go_wp2_with (with_reducible refine qB9 rfl (.tmp 22) (.tmp 23) 71 rfl 151 Tryz.underlying71 qMv .u32 g (N+1) (N+1) (List.replicate (N+1) 0) B xa N xcap rfl rfl Hblk1.o (List.length_replicate ..) HN.o (Nat.le_succ _) HX1.o ?_)
 intro w3 hb3 hO3 hs3;obtain⟨sb,hsb⟩:=eX w1.heap.size;have hgs:g<sb:=by omega
 have hs3':w3.heap.size=sb+1:=by rw[<-hsb];simpa using hs3
 have Hsb3:=hZ (hO3.one (One.new w1 71 (.slice (some ⟨g,0,none⟩) (N+1) (N+1))) (by omega));have HB3:=hZ (hO3.below HB2.o (by simp;omega) (fun b e=>by rw[e];exact Nat.le_refl _));have HY3:=hZ (HY0.o.below (by rw[Hg.o];exact Nat.le_refl _) HB3.o);rw[hsb]at Hsb3 ⊢;have hL3:B++(List.replicate (N+1) 0).drop B.length=B++[0]:=by
  rw[HN.o,List.drop_replicate,show N+1-N=1 by omega];rfl
 have Hb3:Hid (Blk w3 g 151 .u32 (B++[0])):=hZ (by rw[<-hL3];simpa using hb3);clear hb3 hO3 hs3 hsb hL3 Hblk1 HB2 HX1 HX0
 go_wp2_with fail
 have hcb0:=One.new w3 173 (.int .u64 0);rw[hs3']at hcb0;obtain⟨w4,hw4⟩:=eX (w3.alloc (.cells #[.int .u64 0] 173));have Hb4:=hZ (Hb3.o.alloc (.cells #[.int .u64 0] 173));have Hsb4:=hZ (Hsb3.o.alloc (.cells #[.int .u64 0] 173));have HB4:=hZ (HB3.o.alloc (by omega) (.cells #[.int .u64 0] 173));have Hcb4:=hZ hcb0;rw[hw4]at Hb4 Hsb4 HB4 Hcb4 ⊢;have Hs4:Hid (w4.heap.size=sb+1+1):=hZ (by rw[<-hw4,World.size_alloc,hs3']);clear hcb0 hw4 Hb3 Hsb3 HB3 hs3' HY3;have HI0:=hZ (qCF.start B A N HN.o HlA.o)
 go_loopw [28] (fun i wr=>∃(k c:Nat) (L:List Nat),k<=M/\i=.int .i64 k/\Hid (qCF B A N k c L)/\Hid (Blk wr g 151 .u32 L)/\Hid (One wr (sb+1) 173 (.int .u64 (c:Int)))/\Hid (One wr sb 71 (.slice (some ⟨g,0,none⟩) (N+1) (N+1)))/\Hid (Below g w wr)) (fun i _=>M-(intOf i).toNat)
 case atStart=>exact⟨0,0,_,by omega,rfl,HI0,Hb4,Hcb4,Hsb4,HB4⟩
 case round=>
  obtain⟨k,c,L,hk,rfl,hI,hbl,hcb,hsb,hB⟩:=hrel;have hgw:=hbl.o.lt;by_cases hlt:k<M
  ·have hy:k<A.length:=by rw[HM.o];exact hlt
   have hkl:k<L.length:=by rw[hI.o.len];omega
   obtain⟨b,off,rfl,hb,hcc⟩:=Hyc.o (by omega);rw[Hg.o]at hb;have cy:=(hB.o.cell (p:=⟨b,off+k,none⟩) hb).trans (hcc k hy);have hyl:A[k]<4294967296:=HlB.o _ (List.getElem_mem hy);have Hnext:=hZ (hI.o.next hkl hy HlB.o);have hc1:=hI.o.c1;have Hp:=hZ (qFm k (N+1) g (sb+1) sb c A[k] L wr hI.o.len hkl (by omega) hbl.o hcb.o hsb.o (by omega) (by omega) (by omega) (by omega) hyl hI.o.low);clear hcc;generalize A[k]=y at *
   go_wp2_with (go_at_call 162;refine Hp.o.mono ?_;rintro e w5 ⟨⟨v5,rfl⟩,q1,q2,q3,q4⟩;have Q1:=hZ q1;have Q2:=hZ q2;have Q3:=hZ q3;have Q4:=hZ q4;clear q1 q2 q3 q4)
   go_roundw
   case rel=>exact⟨k+1,_,_,by omega,by go_num,Hnext,Q1,Q2,Q3,hZ (Q4.o.below hB.o (by omega) (fun b e=>by rcases e with e|e<;>omega))⟩
   case measure=>simp[intOf];omega
  ·obtain rfl:k=M:=by omega
   clear hlt
   go_wp2_with fail
   obtain⟨wo,rfl⟩:=eY wr
   go_loopw [10] (fun i wr=>∃(m c:Nat) (L:List Nat),k<=m/\m<=N+1/\i=.int .i64 m/\Hid (qCF B A N m c L)/\Hid (Blk wr g 151 .u32 L)/\Hid (One wr (sb+1) 173 (.int .u64 (c:Int)))/\Hid (One wr sb 71 (.slice (some ⟨g,0,none⟩) (N+1) (N+1)))/\Hid (Below g w wr)) (fun i _=>N+1-(intOf i).toNat)
   case atStart=>exact⟨k,c,L,Nat.le_refl _,by omega,rfl,hI,hbl,hcb,hsb,hB⟩
   case round=>
    clear hI hbl hcb hsb hB hgw;obtain⟨m,c2,L2,hm1,hm2,rfl,hI,hbl,hcb,hsb,hB⟩:=hrel;have hgw:=hbl.o.lt;have ccb:=hcb.o.cell;have hYk:A.length<=m:=by rw[HM.o];exact hm1
    by_cases hc0:c2=0
    ·subst hc0
     have csb:=hsb.o.cell;have hlen2:=hI.o.len;have Htr:=hZ (qCI (.slice (some ⟨g,0,none⟩) (N+1) (N+1)) L2 wr (by
      have:=qAd.of_blk hbl.o (cap:=N+1) (by omega) (by omega);rw[hlen2]at this;exact this) hI.o.low (by omega))
     rw[hI.o.done hYk]at Htr;clear hlen2
     go_wp2_with (go_at_call 136;refine Htr.o.mono ?_;rintro e w6 ⟨v6,rfl,q1,rfl⟩;have Q1:=hZ q1;clear q1)
     go_ret;exact⟨_,rfl,by have h9:=Q1.o;rw[Nat.add_comm (val W2 B)]at h9;exact h9,by rw[Hg.o];exact hB.o⟩
    ·have hmN:=hI.o.room HlA.o HlB.o HN.o (by rw[HM.o];omega) hm2 hYk hc0
     have hkl:m<L2.length:=by rw[hI.o.len];omega
     have Hnext:=hZ (hI.o.over hkl hYk);have hc1:=hI.o.c1;have Hp:=hZ (qFm m (N+1) g (sb+1) sb c2 0 L2 wr hI.o.len hkl (by omega) hbl.o hcb.o hsb.o (by omega) (by omega) (by omega) (by omega) (by omega) hI.o.low);have hcpos:0<c2:=by omega
     clear hc0
     go_wp2_with (go_at_call 162;refine Hp.o.mono ?_;rintro e w5 ⟨⟨v5,rfl⟩,q1,q2,q3,q4⟩;have Q1:=hZ q1;have Q2:=hZ q2;have Q3:=hZ q3;have Q4:=hZ q4;clear q1 q2 q3 q4)
     go_roundw
     case rel=>exact⟨m+1,_,_,by omega,by omega,by go_num,Hnext,Q1,Q2,Q3,hZ (Q4.o.below hB.o (by omega) (fun b e=>by rcases e with e|e<;>omega))⟩
     case measure=>simp[intOf];omega
def qAK(w:World)(v:Value)(n:Nat):Prop:=qAd .u32 w v (qAm W2 n)
theorem qKG(va vb:Value)(m n:Nat)(w:World)(ha:qAK w va m)(hb:qAK w vb n)(hl1:(qAm W2 m).length<=1048576)(hl2:(qAm W2 n).length<=1048576):
 Calls Tryz.prog 114 #[va,vb] w fun e w'=>∃v,e=.returned v/\qAK w' v (m+n)/\Below w.heap.size w w':=by
 have key:Calls Tryz.prog 114 #[va,vb] w fun e w'=>∃v,e=.returned v/\qAd .u32 w' v (qAm W2 (val W2 (qAm W2 m)+val W2 (qAm W2 n)))/\Below w.heap.size w w':=by
  by_cases h:(qAm W2 m).length<(qAm W2 n).length
  ·exact qQe va vb _ _ w ha hb (qAv W2 qAk m) (qAv W2 qAk n) h hl2
  ·exact qQf va vb _ _ w ha hb (qAv W2 qAk m) (qAv W2 qAk n) (by omega) hl1
 rw[qAu W2 qAk,qAu W2 qAk]at key;exact key
def brw(s x br:Nat):Nat:=if s<x+br then 1 else 0
def dif(s x br:Nat):Nat:=s+brw s x br*W2-x-br
theorem qNV(s x br:Nat)(hx:x<W2)(hbr:br<=1):dif s x br+x+br=s+brw s x br*W2:=by
 unfold dif brw
 split<;>(unfold W2 at *;omega)
theorem qK1(s x br:Nat)(hs:s<W2)(hbr:br<=1):dif s x br<W2:=by
 unfold dif brw
 split<;>(unfold W2 at *;omega)
theorem qLc(s x br:Nat):brw s x br<=1:=by unfold brw;split<;>omega
theorem qK0(s x br:Nat)(hs:s<W2)(hx:x<W2)(hbr:br<=1)(T D:Int)(hT:T=((s:Int)-x)%18446744073709551616)(hD:D=(T-br)%18446744073709551616):
 D%4294967296=(dif s x br:Int)/\D/9223372036854775808=(brw s x br:Int):=by
 unfold dif brw;unfold W2 at *
 split<;>omega
theorem qIC(i N g cb sb c x:Nat)(L:List Nat)(w:World)(hL:L.length=N)(hi:i<L.length)(_hN:N<=1099511627776)(hblk:Blk w g 151 .u32 L)(hcb:One w cb 173 (.int .u64 (c:Int)))(hsb:One w sb 71 (.slice (some ⟨g,0,none⟩) N N))
 (h1:cb≠g)(h2:sb≠g)(h3:sb≠cb)(hc:c<=1)(hx:x<4294967296)(hlow:Low W2 L):
 Calls Tryz.prog 163 #[.int .i64 (i:Int),.int .u32 (x:Int),.pointer (some ⟨sb,0,none⟩),.pointer (some ⟨cb,0,none⟩)] w fun e w'=>(∃v,e=.returned v)/\
  Blk w' g 151 .u32 (L.set i (dif L[i] x c))/\One w' cb 173 (.int .u64 ((brw L[i] x c:Nat):Int))/\One w' sb 71 (.slice (some ⟨g,0,none⟩) N N)/\qAc (fun k=>k=g\/k=cb) w w':=by
 have Hblk:=hZ hblk;have Hcb:=hZ hcb;have Hsb:=hZ hsb;have e1:=hblk.cell i hi;have e2:=hblk.frozen i;have e3:=hcb.cell;have e4:=hcb.frozen;have e5:=hsb.cell;have hs:L[i]<4294967296:=hlow _ (List.getElem_mem hi);clear hblk hcb hsb hlow;have hi2:i<N:=by omega
 have hi3:(0:Int)<=(i:Int):=by omega
 have hi4:(i:Int)<(N:Int):=by omega
 have HL:=hZ hL;clear hL;generalize hS:L[i]=s at *;have HS:=hZ hS;clear hS;obtain⟨T,hT⟩:∃T:Int,T=((s:Int)-x)%18446744073709551616:=⟨_,rfl⟩;obtain⟨D,hD⟩:∃D:Int,D=(T-c)%18446744073709551616:=⟨_,rfl⟩;have hdw:=hZ (qK0 s x c hs hx hc T D hT hD);have b1:IntKind.u64.wrap ((s:Int)-x)=T:=by rw[hT,IntKind.wrap_u64]
 have b2:IntKind.u64.wrap (T-c)=D:=by rw[hD,IntKind.wrap_u64]
 have hT0:0<=T:=by omega
 have hT1:T<=18446744073709551615:=by omega
 have hD0:0<=D:=by omega
 have hD1:D<=18446744073709551615:=by omega
 clear hT hD
 go_enter Tryz.func163,Tryz.ntmps163
 go_wp2
 go_quiet (fail)
 clear b1 b2
 go_wp2
 go_end0
 rw[hdw.o.1,hdw.o.2];refine⟨⟨_,rfl⟩,?_,?_,?_,?_⟩
 ·exact((Hblk.o.set i _).far (p:=⟨cb,0,none⟩) (Ne.symm h1) _).drewN _
 ·exact(((Hcb.o.far (p:=⟨g,i,none⟩) h1 _).set _)).drewN _
 ·exact((Hsb.o.far (p:=⟨g,i,none⟩) h2 _).far (p:=⟨cb,0,none⟩) h3 _).drewN _
 ·exact(((qAc.refl _ w).set (p:=⟨g,i,none⟩) (Or.inl rfl) _).set (p:=⟨cb,0,none⟩) (Or.inr rfl) _).drewN _
structure qCj(X Y:List Nat)(N k c:Nat)(L:List Nat):Prop where
 len:L.length=N
 low:Low W2 L
 c1:c<=1
 eq:val W2 L+val W2 (Y.take k)=val W2 X+c*W2^k
theorem qCj.start(X Y:List Nat)(N:Nat)(hN:X.length=N)(hX:Low W2 X):qCj X Y N 0 0 X:=
 ⟨hN,hX,by omega,by simp[val]⟩
theorem qKy(L:List Nat)(k c x:Nat)(h:k<L.length)(hx:x<W2)(hc:c<=1):val W2 (L.set k (dif L[k] x c))+(x+c)*W2^k=val W2 L+brw L[k] x c*W2^(k+1):=by
 have h1:=qCu W2 L k (dif L[k] x c) h;have h2:=qNV L[k] x c hx hc;rw[Nat.pow_succ];generalize dif L[k] x c=r at *;generalize brw L[k] x c=q at *;generalize W2^k=p at *;generalize L[k]=s at *;generalize val W2 L=v at *;generalize val W2 (L.set k r)=v' at *;generalize W2=B at *
 grind
theorem qCj.next{X Y:List Nat}{N k c:Nat}{L:List Nat}(h:qCj X Y N k c L)(hk:k<L.length)(hy:k<Y.length)(hY:Low W2 Y):
 qCj X Y N (k+1) (brw L[k] Y[k] c) (L.set k (dif L[k] Y[k] c)):=by
 refine⟨by rw[List.length_set];exact h.len,qBe h.low _ _ (qK1 _ _ _ (h.low _ (List.getElem_mem hk)) h.c1),qLc _ _ _,?_⟩;have h1:=qKy L k c Y[k] hk (hY _ (List.getElem_mem hy)) h.c1;have h2:=h.eq;rw[qAj W2 Y k hy];rw[Nat.add_mul]at h1;omega
theorem qCj.over{X Y:List Nat}{N k c:Nat}{L:List Nat}(h:qCj X Y N k c L)(hk:k<L.length)(hy:Y.length<=k):
 qCj X Y N (k+1) (brw L[k] 0 c) (L.set k (dif L[k] 0 c)):=by
 refine⟨by rw[List.length_set];exact h.len,qBe h.low _ _ (qK1 _ _ _ (h.low _ (List.getElem_mem hk)) h.c1),qLc _ _ _,?_⟩;have h1:=qKy L k c 0 hk (by decide) h.c1;have h2:=h.eq;rw[List.take_of_length_le (by omega)]at h2 ⊢;rw[Nat.zero_add]at h1;omega
theorem qCj.room{X Y:List Nat}{N k c:Nat}{L:List Nat}(h:qCj X Y N k c L)(hle:val W2 Y<=val W2 X)(hy:Y.length<=k)(hc:c≠0):k<N:=by
 rcases Nat.lt_or_ge k N with h1|h1
 ·exact h1
 ·have h2:=h.eq
  rw[List.take_of_length_le hy]at h2;have h3:=qBP W2 (by decide) L h.low;rw[h.len]at h3;have h5:W2^N<=W2^k:=Nat.pow_le_pow_right (by decide) h1;have h6:1*W2^k<=c*W2^k:=Nat.mul_le_mul_right _ (by omega);omega
theorem qCj.done{X Y:List Nat}{N k:Nat}{L:List Nat}(h:qCj X Y N k 0 L)(hy:Y.length<=k):val W2 L=val W2 X-val W2 Y:=by
 have:=h.eq;rw[List.take_of_length_le hy,Nat.zero_mul,Nat.add_zero]at this;omega
theorem qLE(va vb:Value)(A B:List Nat)(w:World)(ha:qAd .u32 w va A)(hb:qAd .u32 w vb B)(hA:Low W2 A)(hB:Low W2 B)(hl:B.length<=A.length)(hle:val W2 B<=val W2 A)(hlen:A.length<=1048576):
 Calls Tryz.prog 115 #[va,vb] w fun e w'=>∃v,e=.returned v/\qAd .u32 w' v (qAm W2 (val W2 A-val W2 B))/\Below w.heap.size w w':=by
 have HX0:=hZ ha;obtain⟨ya,ycap,hvy,y1,y2,hyc⟩:=hb;subst hvy;have Hyc:=hZ hyc;have HlA:=hZ hA;have HlB:=hZ hB;have Hle:=hZ hle;clear hyc hA hB hle ha;obtain⟨N,hN⟩:=eX A.length;obtain⟨M,hM⟩:=eX B.length;have HN:=hZ hN;have HM:=hZ hM;have Hcl:=hZ (qEz va A w HX0.o (by omega));rw[hN]at hlen hl Hcl;rw[hM]at y1 hl ⊢;clear hN hM
 go_enter Tryz.func115,Tryz.ntmps115
 go_wp2_with fail
 refine Hcl.o.mono ?_;rintro e w1 ⟨rfl,hblk,hB1⟩;obtain⟨g,hg⟩:=eX w.heap.size;have Hg:=hZ hg;rw[hg]at hblk hB1 ⊢;have hz1:=hblk.lt;have Hblk1:=hZ hblk;have HB1:=hZ hB1;clear hg hblk hB1 Hcl
 go_wp2_with fail
 obtain⟨sb,hsb⟩:=eX w1.heap.size;have hgs:g<sb:=by omega
 obtain⟨w4,hw4⟩:=eX ((w1.alloc (.cells #[.slice (some ⟨g,0,none⟩) N N] 71)).alloc (.cells #[.int .u64 0] 173));have hcb0:=One.new (w1.alloc (.cells #[.slice (some ⟨g,0,none⟩) N N] 71)) 173 (.int .u64 0);have hsb0:=(One.new w1 71 (.slice (some ⟨g,0,none⟩) N N)).alloc (.cells #[.int .u64 0] 173);rw[World.size_alloc,hsb,hw4]at hcb0;rw[hsb,hw4]at hsb0;have Hb4:=hZ ((Hblk1.o.alloc (.cells #[.slice (some ⟨g,0,none⟩) N N] 71)).alloc (.cells #[.int .u64 0] 173));have HB4:=hZ ((HB1.o.alloc (by omega) (.cells #[.slice (some ⟨g,0,none⟩) N N] 71)).alloc (by simp;omega) (.cells #[.int .u64 0] 173));have Hcb4:=hZ hcb0;have Hsb4:=hZ hsb0;rw[hw4]at Hb4 HB4;rw[hsb,hw4];clear hcb0 hsb0 hw4 hsb Hblk1 HB1 hz1;have HI0:=hZ (qCj.start A B N HN.o HlA.o)
 go_loopw [16] (fun i wr=>∃(k c:Nat) (L:List Nat),k<=M/\i=.int .i64 k/\Hid (qCj A B N k c L)/\Hid (Blk wr g 151 .u32 L)/\Hid (One wr (sb+1) 173 (.int .u64 (c:Int)))/\Hid (One wr sb 71 (.slice (some ⟨g,0,none⟩) N N))/\Hid (Below g w wr)) (fun i _=>M-(intOf i).toNat)
 case atStart=>exact⟨0,0,_,by omega,rfl,HI0,Hb4,Hcb4,Hsb4,HB4⟩
 case round=>
  obtain⟨k,c,L,hk,rfl,hI,hbl,hcb,hsb,hB⟩:=hrel;have hgw:=hbl.o.lt;by_cases hlt:k<M
  ·have hy:k<B.length:=by rw[HM.o];exact hlt
   have hkl:k<L.length:=by rw[hI.o.len];omega
   obtain⟨b,off,rfl,hb,hcc⟩:=Hyc.o (by omega);rw[Hg.o]at hb;have cy:=(hB.o.cell (p:=⟨b,off+k,none⟩) hb).trans (hcc k hy);have hyl:B[k]<4294967296:=HlB.o _ (List.getElem_mem hy);have Hnext:=hZ (hI.o.next hkl hy HlB.o);have hc1:=hI.o.c1;have Hp:=hZ (qIC k N g (sb+1) sb c B[k] L wr hI.o.len hkl (by omega) hbl.o hcb.o hsb.o (by omega) (by omega) (by omega) hc1 hyl hI.o.low);clear hcc;generalize B[k]=y at *
   go_wp2_with (go_at_call 163;refine Hp.o.mono ?_;rintro e w5 ⟨⟨v5,rfl⟩,q1,q2,q3,q4⟩;have Q1:=hZ q1;have Q2:=hZ q2;have Q3:=hZ q3;have Q4:=hZ q4;clear q1 q2 q3 q4)
   go_roundw
   case rel=>exact⟨k+1,_,_,by omega,by go_num,Hnext,Q1,Q2,Q3,hZ (Q4.o.below hB.o (by omega) (fun b e=>by rcases e with e|e<;>omega))⟩
   case measure=>simp[intOf];omega
  ·obtain rfl:k=M:=by omega
   clear hlt
   go_wp2_with fail
   obtain⟨wo,rfl⟩:=eY wr
   go_loopw [10] (fun i wr=>∃(m c:Nat) (L:List Nat),k<=m/\m<=N/\i=.int .i64 m/\Hid (qCj A B N m c L)/\Hid (Blk wr g 151 .u32 L)/\Hid (One wr (sb+1) 173 (.int .u64 (c:Int)))/\Hid (One wr sb 71 (.slice (some ⟨g,0,none⟩) N N))/\Hid (Below g w wr)) (fun i _=>N-(intOf i).toNat)
   case atStart=>exact⟨k,c,L,Nat.le_refl _,by omega,rfl,hI,hbl,hcb,hsb,hB⟩
   case round=>
    clear hI hbl hcb hsb hB hgw;obtain⟨m,c2,L2,hm1,hm2,rfl,hI,hbl,hcb,hsb,hB⟩:=hrel;have hgw:=hbl.o.lt;have ccb:=hcb.o.cell;have hYk:B.length<=m:=by rw[HM.o];exact hm1
    by_cases hc0:c2=0
    ·subst hc0
     have csb:=hsb.o.cell;have hlen2:=hI.o.len;have Htr:=hZ (qCI (.slice (some ⟨g,0,none⟩) N N) L2 wr (by
      have:=qAd.of_blk hbl.o (cap:=N) (by omega) (by omega);rw[hlen2]at this;exact this) hI.o.low (by omega))
     rw[hI.o.done hYk]at Htr;clear hlen2
     go_wp2_with (go_at_call 136;refine Htr.o.mono ?_;rintro e w6 ⟨v6,rfl,q1,rfl⟩;have Q1:=hZ q1;clear q1)
     go_ret;exact⟨_,rfl,Q1.o,by rw[Hg.o];exact hB.o⟩
    ·have hmN:=hI.o.room Hle.o hYk hc0
     have hkl:m<L2.length:=by rw[hI.o.len];omega
     have Hnext:=hZ (hI.o.over hkl hYk);have hc1:=hI.o.c1;have Hp:=hZ (qIC m N g (sb+1) sb c2 0 L2 wr hI.o.len hkl (by omega) hbl.o hcb.o hsb.o (by omega) (by omega) (by omega) hc1 (by omega) hI.o.low);have hcpos:0<c2:=by omega
     clear hc0
     go_wp2_with (go_at_call 163;refine Hp.o.mono ?_;rintro e w5 ⟨⟨v5,rfl⟩,q1,q2,q3,q4⟩;have Q1:=hZ q1;have Q2:=hZ q2;have Q3:=hZ q3;have Q4:=hZ q4;clear q1 q2 q3 q4)
     go_roundw
     case rel=>exact⟨m+1,_,_,by omega,by omega,by go_num,Hnext,Q1,Q2,Q3,hZ (Q4.o.below hB.o (by omega) (fun b e=>by rcases e with e|e<;>omega))⟩
     case measure=>simp[intOf];omega
theorem qFT(va vb:Value)(m n:Nat)(w:World)(ha:qAK w va m)(hb:qAK w vb n)(hle:n<=m)(hl1:(qAm W2 m).length<=1048576):
 Calls Tryz.prog 115 #[va,vb] w fun e w'=>∃v,e=.returned v/\qAK w' v (m-n)/\Below w.heap.size w w':=by
 have key:=qLE va vb _ _ w ha hb (qAv W2 qAk m) (qAv W2 qAk n) (qBk W2 qAk n m hle) (by rw[qAu W2 qAk,qAu W2 qAk];exact hle) hl1;rw[qAu W2 qAk,qAu W2 qAk]at key;exact key
theorem qK9(t:Nat):((t%W2:Nat):Int)=(t:Int)%4294967296:=by unfold W2;omega
theorem qLa(t:Nat):((t/W2:Nat):Int)=(t:Int)/4294967296:=by unfold W2;omega
theorem qIB(x y:Nat)(hx:x<W2)(hy:y<W2):x*y<=18446744065119617025:=by
 have:x*y<=4294967295*4294967295:=Nat.mul_le_mul (by unfold W2 at hx;omega) (by unfold W2 at hy;omega);omega
theorem qMX(x y:Nat)(hx:x<4294967296)(hy:y<4294967296):bits BinOp.or IntKind.u64 ((x:Int)*4294967296) (y:Int)=((x*4294967296+y:Nat):Int):=by
 have h:=u64_or_nat (x*4294967296) y (by omega) (by omega);have e:(((x*4294967296:Nat)):Int)=(x:Int)*4294967296:=by omega
 rw[e]at h;rw[h];have h2:x*2^32|||y=x*2^32+y:=by rw[Nat.mul_comm,<-Nat.two_pow_add_eq_or_of_lt hy]
 exact congrArg Int.ofNat h2
theorem qJ5(L:List Nat)(k x:Nat)(h:k<L.length):(L.set k x).drop k=x::L.drop (k+1):=by
 rw[List.drop_eq_getElem_cons (by rw[List.length_set];exact h),List.getElem_set_self,List.drop_set_of_lt (by omega)]
structure qOg(A:List Nat)(d N k r:Nat)(L:List Nat):Prop where
 len:L.length=N
 low:Low W2 L
 r1:r<d
 eq:val W2 (A.drop k)=d*val W2 (L.drop k)+r
theorem qOg.start(A:List Nat)(d N:Nat)(hN:A.length=N)(hd:0<d):qOg A d N N 0 (List.replicate N 0):=
 ⟨by simp,fun x hx=>by rw[(List.mem_replicate.1 hx).2];decide,hd,by rw[List.drop_of_length_le (by omega),List.drop_of_length_le (by simp)];simp[val]⟩
theorem qOg.quo{A:List Nat}{d N k r:Nat}{L:List Nat}(h:qOg A d N k r L)(y:Nat)(hy:y<W2):(r*W2+y)/d<W2:=by
 have h1:=h.r1;apply(Nat.div_lt_iff_lt_mul (by omega)).2;have:(r+1)*W2<=d*W2:=Nat.mul_le_mul_right _ h1;rw[Nat.add_mul,Nat.one_mul]at this;rw[Nat.mul_comm W2 d];omega
theorem qOg.next{A:List Nat}{d N k r:Nat}{L:List Nat}(h:qOg A d N k r L)(hk:0<k)(h1:k-1<L.length)(h2:k-1<A.length)(hA:Low W2 A):
 qOg A d N (k-1) ((r*W2+A[k-1])%d) (L.set (k-1) ((r*W2+A[k-1])/d)):=by
 refine⟨by rw[List.length_set];exact h.len,qBe h.low _ _ (h.quo _ (hA _ (List.getElem_mem h2))),Nat.mod_lt _ (by have:=h.r1;omega),?_⟩;rw[qJ5 L (k-1) _ h1,List.drop_eq_getElem_cons h2,Nat.sub_add_cancel hk,val,val,h.eq];have:=Nat.div_add_mod (r*W2+A[k-1]) d;generalize (r*W2+A[k-1])/d=q at *;generalize (r*W2+A[k-1])%d=m at *;generalize A[k-1]=y at *;generalize val W2 (L.drop k)=v at *;generalize W2=B at *
 grind
theorem qOg.done{A:List Nat}{d N r:Nat}{L:List Nat}(h:qOg A d N 0 r L):val W2 L=val W2 A/d/\r=val W2 A%d:=by
 have h1:=h.eq;have h2:=h.r1;rw[List.drop_zero,List.drop_zero]at h1;rw[h1];constructor
 ·rw[Nat.mul_add_div (by omega),Nat.div_eq_of_lt h2,Nat.add_zero]
 ·rw[Nat.mul_add_mod,Nat.mod_eq_of_lt h2]
end Go.Proofs.YtkjhlkngihponaaGreatDoor
