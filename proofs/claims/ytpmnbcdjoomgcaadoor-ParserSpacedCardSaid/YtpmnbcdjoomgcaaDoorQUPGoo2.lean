/- Contracts that the parser's laws use: tokens of a known text. -/
import Derived.Test.YtpmnbcdjoomgcaaDoorQUPGe1
set_option linter.unusedVariables false
set_option linter.unusedSimpArgs false
namespace Go.Proofs.YtpmnbcdjoomgcaaDoor
open Go.RowKit
theorem qHr{s:ByteArray}(hs:s.size<=8192):lxs s=lx s.size s.data.toList:=by unfold lxs;rw[if_neg (by omega)]
theorem qFO(s:ByteArray)(ts:List Tok)(w:World)(hs:s.size<=8192)(h:lx s.size s.data.toList=.ok ts)(hK:qAT w):
 Calls Tryd.prog 22 #[.string s] w fun e w'=>(∃a c,e=.returned (.tuple #[.slice a ts.length c,.int .i64 0,.int .i64 0])/\qCW 55 w' (.slice a ts.length c) ts)/\Below w.heap.size w w':=by
 refine(qCG s w (by omega) hK).mono ?_;rintro e w' ⟨hB,⟨ts',v,hx',hlen,rfl,hown⟩|⟨k,er,hx',rfl,_⟩⟩
 ·rw[qHr hs,h]at hx'
  cases hx'
  have ht:=qCW.of_own hown;obtain⟨a,c,rfl, -,-⟩:=TSl.form ht;exact⟨⟨a,c,rfl,ht⟩,hB⟩
 ·rw[qHr hs,h]at hx';cases hx'
theorem qHN(s:ByteArray)(k:Nat)(er:Int)(w:World)(hs:s.size<=8192)(h:lx s.size s.data.toList=.error (k,er))(hK:qAT w):
 Calls Tryd.prog 22 #[.string s] w fun e w'=>e=.returned (.tuple #[.slice none 0 0,.int .i64 (k:Nat),.int .i64 er])/\Below w.heap.size w w':=by
 refine(qCG s w (by omega) hK).mono ?_;rintro e w' ⟨hB,⟨ts',v,hx',hlen,rfl,hown⟩|⟨k,er,hx',rfl,_⟩⟩
 ·rw[qHr hs,h]at hx';cases hx'
 ·rw[qHr hs,h]at hx';cases hx';exact⟨rfl,hB⟩
theorem qF6(s:ByteArray)(k:Nat)(er:Int)(w:World)(hs:s.size<=100000)(hx:qAj s.data.toList=.error (k,er))(hK:qAT w):
 Calls Tryd.prog 18 #[.string s] w fun e w'=>e=.returned (.tuple #[.slice none 0 0,.int .i64 (k:Nat),.int .i64 er])/\Below w.heap.size w w':=by
 refine(qCv s w hs hK).mono ?_;rintro e w1 ⟨hB1,⟨ds',v,hx',hl,rfl,hv⟩|⟨k,er,hx',rfl,her⟩⟩
 ·rw[hx]at hx';cases hx'
 ·rw[hx]at hx';cases hx';exact⟨rfl,hB1⟩
theorem qKG(s:ByteArray)(n:Nat):(s.extract 0 n).data.toList=s.data.toList.take n:=by
 rw[ByteArray.data_extract,Array.toList_extract];simp[List.extract]
theorem qCW.kb{w w':World}{v:Value}{l:List Tok}(h:qCW 55 w v l)(hb:Below w.heap.size w w'):qCW 55 w' v l:=TSl.kp h (KpX.of_below (X:=[]) hb) (by simp) (fun _ _ h=>h)
theorem qCW.two{w:World}{v:Value}{l:List Tok}(h:qCW 55 w v l)(i:Nat)(hi:i<l.length):∃g off cap,v=.slice (some ⟨g,off,none⟩) l.length cap/\w.cell? ⟨g,off+i*4+1,none⟩=some (.string ⟨l[i].text.toArray⟩)/\w.cell? ⟨g,off+i*4+3,none⟩=some (.int .i64 l[i].at_):=by
 obtain⟨g,off,cap,es,hv,h1,h2,h3,rfl,h5,hc⟩:=TSl.at_ h i hi;exact⟨g,off,cap,hv,hc 1 (by omega),hc 3 (by omega)⟩
end Go.Proofs.YtpmnbcdjoomgcaaDoor
