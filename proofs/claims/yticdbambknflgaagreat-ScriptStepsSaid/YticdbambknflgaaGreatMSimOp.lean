/- Arguments read as data, with their bounds: of no program. Conditions: none. -/
import Derived.Test.YticdbambknflgaaGreatMSimBr
import Derived.SizedLaws
namespace Go.Proofs.YticdbambknflgaaGreat.Sim
open Go Go.RowKit Go.Deep Go.ChangeShapes Go.WideShapes
set_option linter.unusedVariables false
def Sized {H:Type} (P:Program) (t:TypeId) (d:DataW H):Prop:=∀ n ∈ d.weights P t,n≤reachBytes
def OpensD (P:Program) (t:TypeId) {α:Type} (f:α→List D) (ok:α→Prop):Prop :=
 ∀ (H:Type) (enc:TypeId × Value→H) (w:World) (base:Nat) (spare:Nat→Bool) (held:Bool) (fuel:Nat) (cs:List Value) (x:DataW H × List MemPlace),
  DataW.trod enc P w base spare held fuel t cs=some x→∃ a:α,Cells w (Lo w.heap.size) (f a) cs∧(Sized P t x.1→ok a)
theorem OpensD.mono {P:Program} {t:TypeId} {α:Type} {f:α→List D} {ok ok':α→Prop} (h:OpensD P t f ok) (hk:∀ a,ok a→ok' a):OpensD P t f ok':=by
 intro H enc w base spare held fuel cs x hx
 obtain⟨a,h1,h2⟩:=h _ _ _ _ _ _ _ _ _ hx
 exact⟨a,h1,fun h3=>hk a (h2 h3)⟩
theorem OpensD.map {P:Program} {t:TypeId} {α β:Type} {f:α→List D} {ok:α→Prop} (h:OpensD P t f ok) (g:α→β) {f':β→List D} {ok':β→Prop} (hf:∀ a,f' (g a)=f a) (hk:∀ a,ok a→ok' (g a)):OpensD P t f' ok':=by
 intro H enc w base spare held fuel cs x hx
 obtain⟨a,h1,h2⟩:=h _ _ _ _ _ _ _ _ _ hx
 exact⟨g a,by rw[hf];exact h1,fun h3=>hk a (h2 h3)⟩
theorem OpensD.int {P:Program} {t:TypeId} (ht:P.underlying t=some (.int .i64)):OpensD P t (fun x:Int=>[D.at (.int .i64 x)]) (fun x=>-9223372036854775808≤x∧x≤9223372036854775807):=by
 intro H enc w base spare held fuel cs x h
 obtain⟨n,rfl,rfl,hw⟩:=DataW.trod_int ht h
 refine⟨n,by simp only[Cells,D.is];exact⟨_,_,rfl,⟨rfl,rfl⟩,rfl⟩,fun _=>?_⟩
 have:=i64_of_wf hw
 exact this
theorem OpensD.u8 {P:Program} {t:TypeId} (ht:P.underlying t=some (.int .u8)):OpensD P t (fun x:UInt8=>[D.at (.int .u8 x.toNat)]) (fun _=>True):=by
 intro H enc w base spare held fuel cs x h
 obtain⟨n,rfl,rfl,hw⟩:=DataW.trod_int ht h
 have hn:0≤n∧n≤255:=by simpa [Lit.wf,IntKind.min,IntKind.max,IntKind.signed,IntKind.bits] using hw
 obtain⟨m,rfl⟩:=Int.eq_ofNat_of_zero_le hn.1
 refine⟨UInt8.ofNat m,?_,fun _=>trivial⟩
 simp only[Cells,D.is]
 refine⟨_,_,rfl,⟨?_,rfl⟩,rfl⟩
 rw[UInt8.toNat_ofNat',Nat.mod_eq_of_lt (by omega)]
theorem sized_all {H:Type} {P:Program} {e:TypeId}:∀ {l:List (DataW H)} {i:Nat} (h:i<l.length),∀ n ∈ l[i].weights P e,n ∈ DataW.weightsAll P e l
 |d :: l,0,h,n,hn=>by simp only[DataW.weightsAll,List.mem_append];exact .inl hn
 |d :: l,i+1,h,n,hn=>by simp only[DataW.weightsAll,List.mem_append];exact .inr (sized_all (by simpa using h) n hn)
theorem OpensD.slice {P:Program} {t e:TypeId} {k:Nat} {α:Type} {f:α→List D} {ok:α→Prop} (ht:P.underlying t=some (.slice e)) (hC:P.cellsOf e=k) (hpos:0<k) (hk:∀ a,(f a).length=k) (he:OpensD P e f ok):OpensD P t (fun l:List α=>[D.sl k (l.map f)]) (fun l=>l.length*P.bytesOf e≤reachBytes∧∀ a ∈ l,ok a):=by
 intro H enc w base spare held fuel cs x h
 have hO:Opens P e (E k) (fun d e'=>∃ a,e'.cs=f a∧(Sized P e d→ok a)):=by
  intro H enc w base spare held fuel cs x h
  obtain⟨a,h1,h2⟩:=he _ _ _ _ _ _ _ _ _ h
  exact⟨⟨f a,hk a⟩,h1,a,rfl,h2⟩
 obtain⟨l',⟨v,rfl,hl⟩,hb⟩:=Opens.slice (α:=E k) ht hC hpos hO _ _ _ _ _ _ _ _ _ h
 have key:∃ la:List α,l'.map E.cs=la.map f∧(Sized P t x.1→la.length*P.bytesOf e≤reachBytes∧∀ a ∈ la,ok a):=by
  rcases hb with ⟨_,rfl⟩|⟨elems,spare,hx,hle,hi⟩
  ·exact⟨[],rfl,fun _=>⟨by simp,fun a h=>by cases h⟩⟩
  ·obtain⟨la,hlen,hla⟩:=list_of (fun i (a:α)=>∀ (h:i<l'.length) (h':i<elems.length),l'[i].cs=f a∧(Sized P e elems[i]→ok a)) l'.length fun i hi'=>by
    obtain⟨a,h1,h2⟩:=hi i hi' (by omega)
    exact⟨a,fun _ _=>⟨h1,h2⟩⟩
   refine⟨la,?_,fun hs=>?_⟩
   ·apply List.ext_getElem
    ·simp [hlen]
    ·intro i h1 h2
     simp only[List.length_map] at h1 h2
     rw[List.getElem_map,List.getElem_map]
     exact (hla i h2 h1 (by omega)).1
   ·rw[hx] at hs
    have hw:∀ n,n=(elems.length+spare.length)*P.bytesOf e∨n ∈ DataW.weightsAll P e elems→n≤reachBytes:=fun n hn=>hs n (by
     simp only[DataW.weights,ht,List.mem_cons,List.mem_append]
     exact hn.elim .inl fun h=>.inr (.inl h))
    refine⟨?_,fun a ha=>?_⟩
    ·have h1:=hw _ (.inl rfl)
     have h2:la.length*P.bytesOf e≤(elems.length+spare.length)*P.bytesOf e:=Nat.mul_le_mul_right _ (by omega)
     omega
    ·obtain⟨i,hi',rfl⟩:=List.getElem_of_mem ha
     exact (hla i hi' (by omega) (by omega)).2 fun n hn=>hw n (.inr (sized_all (by omega) n hn))
 obtain⟨la,h1,h2⟩:=key
 refine⟨la,?_,h2⟩
 simp only[Cells]
 exact⟨_,_,rfl,sl_iff.2 ⟨l',h1,hl⟩,rfl⟩
theorem cells_append {w:World} {S:Nat→Prop}:∀ {c1 c2:List D} {a b:List Value},Cells w S c1 a→Cells w S c2 b→Cells w S (c1++c2) (a++b)
 |[],c2,a,b,h,k=>by simp only[Cells] at h;subst h;exact k
 |d :: c1,c2,a,b,h,k=>by
  simp only[Cells] at h
  obtain⟨x,r,rfl,h1,h2⟩:=h
  simp only[List.cons_append,Cells]
  exact⟨x,r++b,rfl,h1,cells_append h2 k⟩
theorem part_ok {P:Program} {t:TypeId} {fs:Array Field} (ht:P.underlying t=some (.struct fs)) {H:Type} {enc:TypeId × Value→H} {w:World} {base:Nat} {spare:Nat→Bool} {held:Bool} {n:Nat} {cs:List Value} {d:DataW H} {xs:List (DataW H × List MemPlace)} (hx:d=.agg (xs.map (·.1)))
  (hf:∀ (j:Nat) (f:Field),fs[j]?=some f→DataW.trod enc P w base spare held n f.type ((cs.drop f.offset).take (P.cellsOf f.type))=xs[j]?) {j:Nat} {f:Field} (hj:fs[j]?=some f) (hl:j<xs.length) {α:Type} {g:α→List D} {ok:α→Prop} (ho:OpensD P f.type g ok) :
  ∃ a:α,Cells w (Lo w.heap.size) (g a) ((cs.drop f.offset).take (P.cellsOf f.type))∧(Sized P t d→ok a):=by
 have h1:=hf j f hj
 rw[List.getElem?_eq_getElem hl] at h1
 obtain⟨a,h2,h3⟩:=ho _ _ _ _ _ _ _ _ _ h1
 refine⟨a,h2,fun hs=>h3 fun m hm=>hs m ?_⟩
 rw[hx]
 simp only[DataW.weights,ht]
 refine DataW.weights_mem_each (j:=j) (t:=f.type) (d:=xs[j].1) ?_ ?_ m hm
 ·rw[List.getElem?_map,Array.getElem?_toList,hj];rfl
 ·rw[List.getElem?_map,List.getElem?_eq_getElem hl];rfl
theorem sized_of {H:Type} {P:Program} {ts:List TypeId} {ds:List (DataW H)} (h:(DataW.weightsEach P ts ds).all (·≤reachBytes)=true) {j:Nat} {t:TypeId} {d:DataW H} (ht:ts[j]?=some t) (hd:ds[j]?=some d):Sized P t d:=fun n hn=>by
 simpa using List.all_eq_true.1 h n (DataW.weights_mem_each ht hd n hn)
end Go.Proofs.YticdbambknflgaaGreat.Sim
