/- From what a call does to what a statement asks: of no program. Conditions: none. -/
import Derived.Test.YticdbambknflgaaGreatMRep
import Derived.ProofKit
import Derived.Deep.Slices
import Derived.Lib.SmallJoins
import Derived.Test.YticdbambknflgaaGreatMSimZ
import Derived.Below
section
namespace Go.Proofs.YticdbambknflgaaGreat
open Go Go.RowKit Go.Deep Go.ChangeShapes Go.WideShapes
set_option linter.unusedVariables false
def Opens (P:Program) (t:TypeId) (α:Type) [Rep α] (bulk:{H:Type}→DataW H→α→Prop):Prop :=
 ∀ (H:Type) (enc:TypeId × Value→H) (w:World) (base:Nat) (spare:Nat→Bool) (held:Bool) (fuel:Nat) (cs:List Value) (x:DataW H × List MemPlace),
  DataW.trod enc P w base spare held fuel t cs=some x→∃ a:α,Rep.is w (Lo w.heap.size) cs a∧bulk x.1 a
theorem i64_of_wf {x:Int} (h:(Lit.int .i64 x).wf=true):I64 x:=by simpa [Lit.wf,IntKind.min,IntKind.max,IntKind.signed,IntKind.bits] using h
theorem Opens.int {P:Program} {t:TypeId} (ht:P.underlying t=some (.int .i64)):Opens P t Int (fun _ _=>True):=by
 intro H enc w base spare held fuel cs x h
 obtain⟨n,rfl,rfl,hw⟩:=DataW.trod_int ht h
 exact⟨n,⟨rfl,i64_of_wf hw⟩,trivial⟩
def sliceBulk {α:Type} (bulk:{H:Type}→DataW H→α→Prop) {H:Type} (d:DataW H) (l:List α):Prop :=
 (d=.nil∧l=[])∨∃ elems spare,d=.slice elems spare∧elems.length=l.length∧∀ i (h:i<l.length) (h':i<elems.length),bulk elems[i] l[i]
theorem chunks_of {α:Type} [Rep α] {w:World} {S:Nat→Prop}:∀ (l:List α) (f:Nat→List Value),(∀ i (h:i<l.length),Rep.is w S (f i) l[i])→Chunks w S ((List.range l.length).flatMap f) l
 |[],f,_=>rfl
 |a :: l,f,h=>by
  refine⟨f 0,(List.range l.length).flatMap (fun i=>f (i+1)),?_,h 0 (by simp),chunks_of l _ fun i hi=>h (i+1) (by simpa using hi)⟩
  rw[List.length_cons,List.range_succ_eq_map,List.flatMap_cons,List.flatMap_map]
theorem list_of {β:Type} (p:Nat→β→Prop):∀ n:Nat,(∀ i,i<n→∃ y,p i y)→∃ l:List β,l.length=n∧∀ i (h:i<l.length),p i l[i]
 |0,_=>⟨[],rfl,fun i h=>absurd h (Nat.not_lt_zero _)⟩
 |n+1,h=>by
  obtain⟨l,hl,hp⟩:=list_of p n fun i hi=>h i (by omega)
  obtain⟨y,hy⟩:=h n (Nat.lt_succ_self n)
  refine⟨l++[y],by simp [hl],fun i hi=>?_⟩
  rcases Nat.lt_or_ge i l.length with h1|h1
  ·rw[List.getElem_append_left h1];exact hp i h1
  ·have e:i=l.length:=by simp at hi;omega
   subst e
   rw[List.getElem_append_right (Nat.le_refl _)]
   simp only[Nat.sub_self,List.getElem_cons_zero]
   rw[hl];exact hy
theorem range_of {w:World} {g off sz:Nat}:∀ (l:List (List Value)),(∀ i (h:i<l.length),(l[i]).length=sz∧w.rangeAt g (off+i*sz) l[i])→w.rangeAt g off l.flatten
 |[],_=>fun j v hv=>by simp at hv
 |c :: l,h=>by
  have h0:=h 0 (by simp)
  have ih:=range_of (w:=w) (g:=g) (off:=off+sz) (sz:=sz) l fun i hi=>by
   have:=h (i+1) (by simpa using hi)
   rw[List.getElem_cons_succ] at this
   refine⟨this.1,?_⟩
   have e:off+sz+i*sz=off+(i+1)*sz:=by rw[Nat.add_mul,Nat.one_mul];omega
   rw[e];exact this.2
  intro j v hv
  rw[List.flatten_cons] at hv
  have hl:c.length=sz:=h0.1
  rcases Nat.lt_or_ge j c.length with hj|hj
  ·rw[List.getElem?_append_left hj] at hv
   have:=h0.2 j v hv
   simpa using this
  ·rw[List.getElem?_append_right hj] at hv
   have:=ih (j-c.length) v hv
   rw[show off+sz+(j-c.length)=off+j by omega] at this
   exact this
theorem chunks_flat {α:Type} [Rep α] {w:World} {S:Nat→Prop}:∀ (l:List (List Value × α)),(∀ i (h:i<l.length),Rep.is w S (l[i]).1 (l[i]).2)→Chunks w S (l.map (·.1)).flatten (l.map (·.2))
 |[],_=>rfl
 |a :: l,h=>⟨a.1,_,rfl,h 0 (by simp),chunks_flat l fun i hi=>h (i+1) (by simpa using hi)⟩
theorem Opens.slice {P:Program} {t e:TypeId} {α:Type} [Rep α] {bulk:{H:Type}→DataW H→α→Prop} (ht:P.underlying t=some (.slice e)) (hC:P.cellsOf e=Rep.sz α) (hpos:0<Rep.sz α) (he:Opens P e α bulk):Opens P t (List α) (sliceBulk bulk):=by
 intro H enc w base spare held fuel cs x h
 rcases open_slice ht h with ⟨rfl,rfl⟩|⟨a,len,cap,m,n,D,Pl,rfl,hb,hl,hm,hmm,rfl,hi⟩
 ·exact⟨[],⟨_,rfl,Lst.nil _ _ _ (Nat.zero_le _)⟩,.inl ⟨rfl,rfl⟩⟩
 ·have hlm:len≤m:=by rw[hmm];split <;> omega
  obtain⟨ys,hlen,hy⟩:=list_of (fun i (y:List Value × α)=>w.cells? base (a.add (i*P.cellsOf e)) (P.cellsOf e)=some y.1∧Rep.is w (Lo w.heap.size) y.1 y.2∧bulk (D i) y.2) len fun i hil=>by
   obtain⟨cs',h1,h2⟩:=hi i (by omega)
   obtain⟨y,h3,h4⟩:=he _ _ _ _ _ _ _ _ _ h2
   exact⟨(cs',y),h1,h3,h4⟩
  rw[hC] at hy
  refine⟨ys.map (·.2),⟨_,rfl,(ys.map (·.1)).flatten,some a,cap,by rw[List.length_map,hlen],by rw[List.length_map,hlen];exact hl,hm,chunks_flat ys fun i h=>(hy i h).2.1,fun h0=>?_⟩,?_⟩
  ·rw[List.length_map] at h0
   obtain⟨b,off,spot⟩:=a
   have h1:=(hy 0 h0).1
   obtain⟨_,hcl,hat⟩:=World.cells?_some h1
   have hc0:=hat 0 hpos
   rw[List.getElem?_eq_getElem (by omega)] at hc0
   have hspot:spot=none:=by
    have:=World.cell?_spot hc0
    simpa [Addr.add] using this
   subst hspot
   refine⟨b,off,rfl,?_,range_of (sz:=Rep.sz α) _ fun i hi=>?_⟩
   ·have:=block_lt_of_cell hc0
    simpa [Addr.add] using this
   ·have hi':i<ys.length:=by simpa using hi
    obtain⟨_,hcl,hat⟩:=World.cells?_some (hy i hi').1
    rw[List.getElem_map]
    refine⟨hcl,fun j v hv=>?_⟩
    have hj:j<Rep.sz α:=by have:=(List.getElem?_eq_some_iff.1 hv).1;omega
    have:=hat j hj
    rw[hv,Addr.add_lit,Addr.add_lit] at this
    exact this
  ·refine .inr ⟨_,_,rfl,by simp [hlen],fun i h h'=>?_⟩
   have hi':i<ys.length:=by simpa using h
   have:=(hy i hi').2.2
   simpa using this
theorem Opens.parts {P:Program} {t:TypeId} {fs:Array Field} (ht:P.underlying t=some (.struct fs)) {H:Type} {enc:TypeId × Value→H} {w:World} {base:Nat} {spare:Nat→Bool} {held:Bool} {fuel:Nat} {cs:List Value} {x:DataW H × List MemPlace}
  (h:DataW.trod enc P w base spare held fuel t cs=some x) :
  ∃ (n:Nat) (xs:List (DataW H × List MemPlace)),cs.length=P.cellsOf t∧xs.length=fs.size∧x.1=.agg (xs.map (·.1))∧∀ (j:Nat) (f:Field),fs[j]?=some f→DataW.trod enc P w base spare held n f.type ((cs.drop f.offset).take (P.cellsOf f.type))=xs[j]?:=by
 obtain⟨xs,n,_,hx,hl,hxl,hf⟩:=DataW.trod_struct ht h
 exact⟨n,xs,hl,hxl,by rw[hx],hf⟩
theorem Opens.one {P:Program} {t e:TypeId} {f:Field} (ht:P.underlying t=some (.struct #[f])) (hf:f.type=e) (he:P.underlying e=some (.int .i64)) (ho:f.offset=0) (hC:P.cellsOf t=1) (hC2:P.cellsOf e=1):Opens P t Int (fun _ _=>True):=by
 intro H enc w base spare held fuel cs x h
 obtain⟨n,xs,hl,hxl,hx,hff⟩:=Opens.parts ht h
 have h0:=hff 0 f rfl
 subst hf
 rw[ho,hC2,List.drop_zero,List.take_of_length_le (by omega)] at h0
 match xs,hxl with
 |[y],_=>exact Opens.int he _ _ _ _ _ _ _ _ _ h0
end Go.Proofs.YticdbambknflgaaGreat
end
section
namespace Go.Proofs.YticdbambknflgaaGreat.Sim
open Go Go.RowKit Go.Deep
def IsTrueS (w:World) (e:Ending) (w':World):Prop:=e=.returned (.bool true)∧Below w.heap.size w w'
set_option linter.unusedVariables false
theorem rows_ofR {α:Type} [Rep α] (f:α→List D) (hf:∀ w S cs x,Rep.is w S cs x→Cells w S (f x) cs) {w:World} {S:Nat→Prop}:∀ (l:List α) (xs:List Value),Chunks w S xs l→Rows w S (Rep.sz α) (l.map f) xs
 |[],xs,h=>by simp only[Rows,List.map_nil];exact h
 |a :: l,xs,h=>by
  obtain⟨x,r,rfl,h1,h2⟩:=h
  simp only[Rows,List.map_cons]
  have hc:=hf _ _ _ _ h1
  exact⟨x,r,rfl,by rw[← hc.len];exact Rep.len h1,hc,rows_ofR f hf l r h2⟩
theorem lst_sl {α:Type} [Rep α] (f:α→List D) (hf:∀ w S cs x,Rep.is w S cs x→Cells w S (f x) cs) {w:World} {S:Nat→Prop} {v:Value} {l:List α} (h:Lst w S v l):(D.sl (Rep.sz α) (l.map f)).is w S v:=by
 obtain⟨xs,a,cap,rfl,h1,h2,h3,h4⟩:=h
 simp only[D.is]
 exact⟨a,cap,xs,by rw[List.length_map],by rw[List.length_map];exact h1,h2,rows_ofR f hf l xs h3,fun h0=>h4 (by rw[List.length_map] at h0;exact h0)⟩
theorem int_cells:∀ (w:World) (S:Nat→Prop) (cs:List Value) (x:Int),Rep.is w S cs x→Cells w S [.at (.int .i64 x)] cs:=by
 rintro w S cs x ⟨rfl,_⟩
 simp only[Cells,D.is]
 exact⟨_,_,rfl,⟨rfl,rfl⟩,rfl⟩
theorem u8_cells:∀ (w:World) (S:Nat→Prop) (cs:List Value) (x:UInt8),Rep.is w S cs x→Cells w S [.at (.int .u8 x.toNat)] cs:=by
 rintro w S cs x rfl
 simp only[Cells,D.is]
 exact⟨_,_,rfl,⟨rfl,rfl⟩,rfl⟩
theorem calls_true {P:Program} {f:FuncId} {xs:List V} {us:List Value} {w:World} {hd:H} (hgk:Gk w (fun _=>False):=by intro g hg;simp [GL] at hg) (h:Does P f xs [] (B true) [] []) (hv:VRs M0 hd w (Lo w.heap.size) xs us):Calls P f us.toArray w (IsTrueS w):=by
 have hm:Mem (ups M0 []) hd w (Lo w.heap.size) (fun _=>False) w.heap.size :=
  ⟨fun i o h=>(by simp only[ups] at h;cases h),fun i j oi oj b _ h=>(by simp only[ups] at h;cases h),fun b h=>h,Nat.le_refl _,fun b h=>h.elim⟩
 refine (h w hd _ _ us hgk hm hv).mono ?_
 rintro e w' ⟨u,hd',S',rfl,hfr,_,hu,_⟩
 have:u=.bool true:=by simp only[B,VR,D.is] at hu;exact hu.1
 subst this
 exact⟨rfl,⟨hfr.os,hfr.tape,hfr.output,hfr.size,fun k hk=>hfr.block k hk fun h=>h⟩⟩
end Go.Proofs.YticdbambknflgaaGreat.Sim
end
