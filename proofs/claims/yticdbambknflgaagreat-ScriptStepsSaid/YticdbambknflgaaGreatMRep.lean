/- Data with depth that lie in memory (numbers, lists, lists of lists, structs): of no program. Conditions: none. -/
import Derived.Test.YticdbambknflgaaGreatMBase
namespace Go.Proofs.YticdbambknflgaaGreat
open Go Go.RowKit Go.Deep
set_option linter.unusedVariables false
class Rep (α:Type) where
 sz:Nat
 is:World→(Nat→Prop)→List Value→α→Prop
 len:∀ {w S cs x},is w S cs x→cs.length=sz
 one:∀ {w S cs x},is w S cs x→∀ u ∈ cs,u.oneCell'=true
 keep:∀ {w w' S S' cs x},is w S cs x→(∀ b,S b→b<w.heap.size→S' b∧w'.heap[b]?=w.heap[b]?)→is w' S' cs x
section
variable {α:Type} [Rep α]
def Chunks (w:World) (S:Nat→Prop):List Value→List α→Prop
 |xs,[]=>xs=[]
 |xs,a :: l=>∃ c r,xs=c++r∧Rep.is w S c a∧Chunks w S r l
variable {w w':World} {S S':Nat→Prop} {xs ys:List Value} {l m:List α}
theorem Chunks.len (h:Chunks w S xs l):xs.length=l.length*Rep.sz α:=by
 induction l generalizing xs with
 |nil=>cases h;simp
 |cons a l ih =>
  obtain⟨c,r,rfl,hc,hr⟩:=h
  rw[List.length_append,Rep.len hc,ih hr,List.length_cons,Nat.add_mul,Nat.one_mul,Nat.add_comm]
theorem Chunks.one (h:Chunks w S xs l):∀ u ∈ xs,u.oneCell'=true:=by
 induction l generalizing xs with
 |nil=>cases h;simp
 |cons a l ih =>
  obtain⟨c,r,rfl,hc,hr⟩:=h
  intro u hu
  rcases List.mem_append.1 hu with h|h
  ·exact Rep.one hc u h
  ·exact ih hr u h
theorem Chunks.keep (h:Chunks w S xs l) (hk:∀ b,S b→b<w.heap.size→S' b∧w'.heap[b]?=w.heap[b]?):Chunks w' S' xs l:=by
 induction l generalizing xs with
 |nil=>exact h
 |cons a l ih =>
  obtain⟨c,r,rfl,hc,hr⟩:=h
  exact⟨c,r,rfl,Rep.keep hc hk,ih hr⟩
theorem Chunks.append (h:Chunks w S xs l) (k:Chunks w S ys m):Chunks w S (xs++ys) (l++m):=by
 induction l generalizing xs with
 |nil=>cases h;simpa using k
 |cons a l ih =>
  obtain⟨c,r,rfl,hc,hr⟩:=h
  exact⟨c,r++ys,by rw[List.append_assoc],hc,ih hr⟩
theorem Chunks.single {a:α} (h:Rep.is w S xs a):Chunks w S xs [a]:=⟨xs,[],by simp,h,rfl⟩
theorem Chunks.split (h:Chunks w S xs (l++m)):∃ a b,xs=a++b∧Chunks w S a l∧Chunks w S b m:=by
 induction l generalizing xs with
 |nil=>exact⟨[],xs,rfl,rfl,h⟩
 |cons a l ih =>
  obtain⟨c,r,rfl,hc,hr⟩:=h
  obtain⟨p,q,rfl,hp,hq⟩:=ih hr
  exact⟨c++p,q,by rw[List.append_assoc],⟨c,p,rfl,hc,hp⟩,hq⟩
theorem Chunks.get (h:Chunks w S xs l) {i:Nat} (hi:i<l.length):∃ cs,(∀ j u,cs[j]?=some u→xs[i*Rep.sz α+j]?=some u)∧Rep.is w S cs l[i]:=by
 induction l generalizing xs i with
 |nil=>simp at hi
 |cons a l ih =>
  obtain⟨c,r,rfl,hc,hr⟩:=h
  have hl:=Rep.len hc
  cases i with
  |zero =>
   refine⟨c,fun j u hu=>?_,hc⟩
   rw[Nat.zero_mul,Nat.zero_add,List.getElem?_append_left ((List.getElem?_eq_some_iff.1 hu).1)]
   exact hu
  |succ i =>
   obtain⟨cs,h1,h2⟩:=ih hr (i:=i) (by simpa using hi)
   refine⟨cs,fun j u hu=>?_,h2⟩
   rw[Nat.add_mul,Nat.one_mul,List.getElem?_append_right (by omega),hl,← h1 j u hu]
   congr 1
   omega
theorem Chunks.set (h:Chunks w S xs l) {i:Nat} (hi:i<l.length) {a:α} {cs:List Value} (ha:Rep.is w S cs a) :
  Chunks w S (xs.take (i*Rep.sz α)++(cs++xs.drop (i*Rep.sz α+Rep.sz α))) (l.set i a):=by
 have e:l=l.take i++(l[i] :: l.drop (i+1)):=by rw[← List.drop_eq_getElem_cons hi,List.take_append_drop]
 rw[List.set_eq_take_append_cons_drop,if_pos hi]
 have h':=h
 rw[e] at h'
 obtain⟨p,q,rfl,hp,c,r,rfl,hc,hr⟩:=h'.split
 have hpl:p.length=i*Rep.sz α:=by rw[hp.len,List.length_take,Nat.min_eq_left (Nat.le_of_lt hi)]
 have hcl:=Rep.len hc
 rw[List.take_left' hpl,List.drop_append,List.drop_of_length_le (by omega),List.nil_append,List.drop_append,List.drop_of_length_le (by omega),List.nil_append,
  show i*Rep.sz α+Rep.sz α-p.length-c.length=0 by omega,List.drop_zero]
 exact hp.append ⟨cs,r,rfl,ha,hr⟩
def Lst (w:World) (S:Nat→Prop) (v:Value) (l:List α):Prop :=
 ∃ xs a cap,v=.slice a l.length cap∧l.length≤cap∧cap≤maxLen∧Chunks w S xs l∧(0<l.length→∃ g off,a=some ⟨g,off,none⟩∧(S g∧g<w.heap.size)∧w.rangeAt g off xs)
theorem lt_of_same {g:Nat} (h:g<w.heap.size) (he:w'.heap[g]?=w.heap[g]?):g<w'.heap.size:=by
 rcases Nat.lt_or_ge g w'.heap.size with h'|h'
 ·exact h'
 ·rw[Array.getElem?_eq_none h',Array.getElem?_eq_getElem h] at he;cases he
theorem Lst.keep {v:Value} (h:Lst w S v l) (hk:∀ b,S b→b<w.heap.size→S' b∧w'.heap[b]?=w.heap[b]?):Lst w' S' v l:=by
 obtain⟨xs,a,cap,hv,hl,hc,hx,hr⟩:=h
 exact⟨xs,a,cap,hv,hl,hc,hx.keep hk,fun h0=>let ⟨g,off,ha,hS,hr'⟩:=hr h0;⟨g,off,ha,⟨(hk g hS.1 hS.2).1,lt_of_same hS.2 (hk g hS.1 hS.2).2⟩,rangeAt_congr hr' (hk g hS.1 hS.2).2⟩⟩
theorem Lst.form {v:Value} (h:Lst w S v l):∃ a cap,v=.slice a l.length cap∧l.length≤cap∧cap≤maxLen:=by
 obtain⟨xs,a,cap,hv,hl,hc,_⟩:=h
 exact⟨a,cap,hv,hl,hc⟩
theorem Lst.nil (w:World) (S:Nat→Prop) (a:Option Addr) {c:Nat} (hc:c≤maxLen):Lst w S (.slice a 0 c) ([]:List α) :=
 ⟨[],a,c,rfl,Nat.zero_le _,hc,rfl,fun h=>absurd h (Nat.lt_irrefl _)⟩
theorem Lst.at_ {a:Option Addr} {n c:Nat} (h:Lst w S (.slice a n c) l) {i:Nat} (hi:i<l.length) :
  ∃ g off cs,a=some ⟨g,off,none⟩∧(S g∧g<w.heap.size)∧w.rangeAt g (off+i*Rep.sz α) cs∧Rep.is w S cs l[i]:=by
 obtain⟨xs,a',cap,hv,hl,hc,hx,hr⟩:=h
 injection hv with h1 h2 h3
 subst h1
 obtain⟨g,off,ha,hS,hr'⟩:=hr (by omega)
 obtain⟨cs,h4,h5⟩:=hx.get hi
 exact⟨g,off,cs,ha,hS,fun j u hu=>by rw[Nat.add_assoc];exact hr' _ u (h4 j u hu),h5⟩
theorem Lst.len {a:Option Addr} {n c:Nat} (h:Lst w S (.slice a n c) l):n=l.length∧n≤c∧c≤maxLen:=by
 obtain⟨xs,a',cap,hv,hl,hc,_⟩:=h
 injection hv with h1 h2 h3
 omega
theorem Lst.addr {a:Option Addr} {n c:Nat} (h:Lst w S (.slice a n c) l):n=0∨∃ g off xs,a=some ⟨g,off,none⟩∧S g∧w.rangeAt g off xs∧Chunks w S xs l:=by
 obtain⟨xs,a',cap,hv,hl,hc,hx,hr⟩:=h
 injection hv with h1 h2 h3
 subst h1
 rcases Nat.eq_zero_or_pos n with h0|h0
 ·exact .inl h0
 ·obtain⟨g,off,ha,hS,hr'⟩:=hr (by omega)
  exact .inr ⟨g,off,xs,ha,hS.1,hr',hx⟩
instance:Rep (List α) where
 sz:=1
 is w S cs l:=∃ v,cs=[v]∧Lst w S v l
 len:=by rintro w S cs x ⟨v,rfl,_⟩;rfl
 one:=by
  rintro w S cs x ⟨v,rfl,h⟩ u hu
  obtain⟨a,cap,rfl,_⟩:=h.form
  obtain rfl:u=_:=by simpa using hu
  rfl
 keep:=fun⟨v,hv,h⟩ hk=>⟨v,hv,h.keep hk⟩
theorem Lst.call {v:Value} (h:Lst w S v l) (hb:Below w.heap.size w w'):Lst w' S v l:=h.keep fun b hb' hl=>⟨hb',hb.block b hl⟩
theorem Lst.alloc {v:Value} (h:Lst w S v l) (o:Obj):Lst (w.alloc o) S v l:=h.keep fun b hb hl=>⟨hb,Below.heap_alloc _ _ _ hl⟩
theorem Lst.drew {v:Value} (h:Lst w S v l):Lst w.drew S v l:=h.keep fun b hb hl=>⟨hb,rfl⟩
theorem Lst.drewN {v:Value} (h:Lst w S v l) (k:Nat):Lst (w.drewN k) S v l:=h.keep fun b hb hl=>⟨hb,rfl⟩
theorem Lst.grown {v:Value} (h:Lst w S v l) {row:Option Nat} (hg:w.grownBy w' row) (hS:∀ k,row=some k→¬ S k):Lst w' S v l:=h.keep fun b hb hl=>⟨hb,hg.block b hl (fun e=>hS b e.symm hb)⟩
theorem Lst.bound {v:Value} (h:Lst w S v l):Lst w (fun b=>S b∧b<w.heap.size) v l:=h.keep fun b hb hl=>⟨⟨hb,hl⟩,rfl⟩
theorem Rep.call {cs:List Value} {x:α} (h:Rep.is w S cs x) (hb:Below w.heap.size w w'):Rep.is w' S cs x:=Rep.keep h fun b hb' hl=>⟨hb',hb.block b hl⟩
abbrev Lo (n:Nat):Nat→Prop:=fun b=>b<n
abbrev Off (w:World) (v:Value) (T:Nat→Prop):Nat→Prop:=fun b=>(b<w.heap.size∧v.ownBlock ≠ some b)∧T b
theorem Lst.below {v:Value} {n k:Nat} (h:Lst w (Lo n) v l) (hb:Below k w w') (hn:n≤k):Lst w' (Lo n) v l:=h.keep fun b hb' _=>⟨hb',hb.block b (by omega)⟩
theorem Lst.more {v:Value} (h:Lst w S v l) (hS:∀ b,S b→S' b):Lst w S' v l:=h.keep fun b hb _=>⟨hS b hb,rfl⟩
theorem Lst.up {v:Value} {n k:Nat} (h:Lst w (Lo n) v l) (hn:n≤k):Lst w (Lo k) v l:=h.more fun b hb=>Nat.lt_of_lt_of_le hb hn
def OwnT (w:World) (B:Nat) (T:Nat→Prop) (v:Value) (l:List α):Prop:=∃ xs,Own w B (Rep.sz α) v l.length xs∧Chunks w (Off w v T) xs l
variable {T T':Nat→Prop}
theorem OwnT.nil (w:World) (B:Nat):OwnT w B T (.slice none 0 0) ([]:List α):=⟨[],Own.nil _ _ _,rfl⟩
theorem OwnT.lst {v:Value} {B:Nat} (h:OwnT w B T v l):Lst w (Lo w.heap.size) v l:=by
 obtain⟨xs,ho,hx⟩:=h
 have hx':=hx.keep (w':=w) (S':=Lo w.heap.size) fun b hb _=>⟨hb.1.1,rfl⟩
 rcases ho.2 with ⟨rfl,h0⟩|⟨g,off,cap,rfl,_,hlt,hn,hc,_,hr⟩
 ·exact⟨xs,none,0,by rw[h0],by omega,Nat.zero_le _,hx',fun h=>by omega⟩
 ·exact⟨xs,_,cap,rfl,hn,hc,hx',fun _=>⟨g,off,rfl,⟨hlt,hlt⟩,hr⟩⟩
theorem OwnT.form {v:Value} {B:Nat} (h:OwnT w B T v l):∃ a cap,v=.slice a l.length cap∧l.length≤cap∧cap≤maxLen:=h.lst.form
theorem OwnT.lt {v:Value} {B:Nat} (h:OwnT w B T v l) {g:Nat} (hg:v.ownBlock=some g):g<w.heap.size∧B≤g:=h.choose_spec.1.lt hg
theorem OwnT.mono {v:Value} {B B':Nat} (h:OwnT w B T v l) (hB:B'≤B):OwnT w B' T v l:=let ⟨xs,ho,hx⟩:=h;⟨xs,ho.mono hB,hx⟩
theorem OwnT.keep {v:Value} {B:Nat} (h:OwnT w B T v l) (hs:w.heap.size≤w'.heap.size) (hb:∀ b,b<w.heap.size→w'.heap[b]?=w.heap[b]?):OwnT w' B T v l:=by
 obtain⟨xs,ho,hx⟩:=h
 exact⟨xs,ho.congr hs fun g hg=>hb g (ho.lt hg).1,hx.keep fun b hb' _=>⟨⟨⟨Nat.lt_of_lt_of_le hb'.1.1 hs,hb'.1.2⟩,hb'.2⟩,hb b hb'.1.1⟩⟩
theorem OwnT.below {v:Value} {B:Nat} (h:OwnT w B T v l) (hb:Below w.heap.size w w'):OwnT w' B T v l:=h.keep hb.size hb.block
theorem OwnT.weaken {v:Value} {B:Nat} (h:OwnT w B T v l) (hT:∀ b,T b→T' b):OwnT w B T' v l:=let ⟨xs,ho,hx⟩:=h;⟨xs,ho,hx.keep fun b hb _=>⟨⟨hb.1,hT b hb.2⟩,rfl⟩⟩
theorem OwnT.bound {v:Value} {B:Nat} (h:OwnT w B T v l):OwnT w B (fun b=>T b∧b<w.heap.size) v l:=let ⟨xs,ho,hx⟩:=h;⟨xs,ho,hx.keep fun b hb _=>⟨⟨hb.1,hb.2,hb.1.1⟩,rfl⟩⟩
theorem OwnT.far {v:Value} {B:Nat} (h:OwnT w B T v l) {p:Addr} (hp:v.ownBlock ≠ some p.block) (hT:¬ T p.block) (u:Value):OwnT (w.setCell p u) B T v l:=by
 obtain⟨xs,ho,hx⟩:=h
 exact⟨xs,ho.far hp u,hx.keep fun b hb _=>⟨⟨⟨by simpa [World.setCell] using hb.1.1,hb.1.2⟩,hb.2⟩,Below.heap_setCell w p u b (fun e=>hT (e ▸ hb.2))⟩⟩
theorem OwnT.alloc {v:Value} {B:Nat} (h:OwnT w B T v l) (o:Obj):OwnT (w.alloc o) B T v l:=h.keep (by simp) fun b hb=>Below.heap_alloc w o b hb
theorem OwnT.drew {v:Value} {B:Nat} (h:OwnT w B T v l):OwnT w.drew B T v l:=h.keep (Nat.le_refl _) fun _ _=>rfl
theorem OwnT.drewN {v:Value} {B:Nat} (h:OwnT w B T v l) (k:Nat):OwnT (w.drewN k) B T v l:=h.keep (Nat.le_refl _) fun _ _=>rfl
theorem OwnT.grown {v v':Value} {B:Nat} {news:List Value} (h:∃ xs,Chunks w (Off w v T) xs l∧Own w' B (Rep.sz α) v' (l.length+m.length) (xs++news)) (hn:Chunks w (Off w v T) news m)
  (hg:w.grownBy w' v.ownBlock) (hat:v'.ownBlock=v.ownBlock∨v'.ownBlock=some w.heap.size):OwnT w' B T v' (l++m):=by
 obtain⟨xs,hx,ho⟩:=h
 have hk:∀ b,Off w v T b→Off w' v' T b∧w'.heap[b]?=w.heap[b]?:=fun b hb=>⟨⟨⟨Nat.lt_of_lt_of_le hb.1.1 hg.size,by
  rcases hat with e|e
  ·rw[e];exact hb.1.2
  ·rw[e];intro e2;injection e2 with e2;have:=hb.1.1;omega⟩,hb.2⟩,hg.block b hb.1.1 (fun e=>hb.1.2 e.symm)⟩
 exact⟨xs++news,by rw[List.length_append];exact ho,(hx.append hn).keep fun b hb _=>hk b hb⟩
end
section
variable {α:Type} [Rep α] {w:World} {T:Nat→Prop}
theorem OwnT.put {B:Nat} {a:Option Addr} {n c:Nat} {l:List α} (h:OwnT w B T (.slice a n c) l) {i:Nat} (hi:i<l.length) {x:α} {cs:List Value} (hx:Rep.is w (Off w (.slice a n c) T) cs x) :
  ∃ g off,a=some ⟨g,off,none⟩∧B≤g∧g<w.heap.size∧w.there g (off+i*Rep.sz α) (Rep.sz α)∧OwnT (w.setCells g (off+i*Rep.sz α) cs) B T (.slice a n c) (l.set i x):=by
 obtain⟨xs,ho,hc⟩:=h
 rcases ho.2 with ⟨he,h0⟩|⟨g,off,cap,he,hB,hlt,hn,hcm,ht,hr⟩
 ·omega
 ·injection he with h1 h2 h3
  subst h1
  subst h3
  have hl:=Rep.len hx
  have hle:(i+1)*Rep.sz α≤l.length*Rep.sz α:=Nat.mul_le_mul_right _ hi
  have hle2:l.length*Rep.sz α≤c*Rep.sz α:=Nat.mul_le_mul_right _ hn
  rw[Nat.add_mul,Nat.one_mul] at hle
  have hth:w.there g (off+i*Rep.sz α) (Rep.sz α):=fun j hj=>by
   have:=ht (i*Rep.sz α+j) (by omega)
   rwa [← Nat.add_assoc] at this
  have hxl:=hc.len
  have hth':w.there g (off+i*Rep.sz α) cs.length:=by rw[hl];exact hth
  have hkeep:∀ b,Off w (.slice (some ⟨g,off,none⟩) n c) T b→Off (w.setCells g (off+i*Rep.sz α) cs) (.slice (some ⟨g,off,none⟩) n c) T b∧(w.setCells g (off+i*Rep.sz α) cs).heap[b]?=w.heap[b]? :=
   fun b hb=>⟨⟨⟨by rw[(size_setCells _ _ _ _).1];exact hb.1.1,hb.1.2⟩,hb.2⟩,World.heap_setCells_other _ _ _ _ hb.1.1 (fun e=>hb.1.2 (by rw[e];rfl))⟩
  have hset:=(hc.keep fun b hb _=>hkeep b hb).set hi (Rep.keep hx fun b hb _=>hkeep b hb)
  refine⟨g,off,rfl,hB,hlt,hth,_,⟨hset.len,.inr ⟨g,off,c,by rw[List.length_set,h2],hB,by rw[(size_setCells _ _ _ _).1];exact hlt,by rw[List.length_set];exact hn,hcm,World.there_setCells ht _ _ _,fun j v hv=>?_⟩⟩,hset⟩
  have htl:(xs.take (i*Rep.sz α)).length=i*Rep.sz α:=by rw[List.length_take];omega
  rcases Nat.lt_or_ge j (i*Rep.sz α) with hj|hj
  ·rw[List.getElem?_append_left (by omega),List.getElem?_take_of_lt hj] at hv
   rw[World.cell?_setCells_out g cs _ w ⟨g,off+j,none⟩ (fun _ _=>.inl (by show off+j<_;omega))]
   exact hr j v hv
  ·rw[List.getElem?_append_right (by omega),htl] at hv
   rcases Nat.lt_or_ge (j-i*Rep.sz α) cs.length with hj2|hj2
   ·rw[List.getElem?_append_left hj2] at hv
    have:=World.rangeAt_setCells_same w g (off+i*Rep.sz α) cs hth' (j-i*Rep.sz α) v hv
    rw[show off+i*Rep.sz α+(j-i*Rep.sz α)=off+j by omega] at this
    exact this
   ·rw[List.getElem?_append_right hj2,List.getElem?_drop] at hv
    rw[World.cell?_setCells_out g cs _ w ⟨g,off+j,none⟩ (fun _ _=>.inr (by show _≤off+j;omega))]
    refine hr j v ?_
    rw[← hv]
    congr 1
    omega
theorem made_list (zs:List Value) (hp:0<zs.length):∀ n:Nat,(madeCells zs.toArray (n*zs.length)).toList=(List.replicate n zs).flatten
 |0=>by simp [madeCells]
 |n+1=>by
  have ih:=made_list zs hp n
  have e:∀ m,(madeCells zs.toArray m).toList=(List.range m).map fun j=>zs.toArray[j % zs.length]!:=fun m=>by
   unfold madeCells
   rw[Array.toList_map,Array.toList_range]
   rfl
  rw[e] at ih ⊢
  rw[Nat.add_mul,Nat.one_mul,List.range_add,List.map_append,ih,List.replicate_succ',List.flatten_append,List.flatten_singleton,List.map_map]
  congr 1
  apply List.ext_getElem
  ·simp
  ·intro j h1 h2
   simp only[List.getElem_map,List.getElem_range,Function.comp]
   rw[Nat.mul_add_mod_self_right,Nat.mod_eq_of_lt h2,List.getElem!_toArray,List.getElem!_eq_getElem?_getD,List.getElem?_eq_getElem h2]
   rfl
theorem chunks_replicate {S:Nat→Prop} {zs:List Value} {z:α} (hz:Rep.is w S zs z):∀ n:Nat,Chunks w S (List.replicate n zs).flatten (List.replicate n z)
 |0=>rfl
 |n+1=>⟨zs,_,rfl,hz,chunks_replicate hz n⟩
theorem OwnT.made {t:TypeId} {zs:List Value} {z:α} (n:Nat) (hn:n≤maxLen) (hz:Rep.is (w.alloc (.cells (madeCells zs.toArray (n*Rep.sz α)) t)) (fun _=>False) zs z) (hp:0<Rep.sz α) :
  OwnT (w.alloc (.cells (madeCells zs.toArray (n*Rep.sz α)) t)) w.heap.size T (.slice (some ⟨w.heap.size,0,none⟩) n n) (List.replicate n z):=by
 have hzl:zs.length=Rep.sz α:=Rep.len hz
 have hlen:(madeCells zs.toArray (n*Rep.sz α)).size=n*Rep.sz α:=size_madeCells _ _
 have hc:=chunks_replicate (hz) n
 rw[← made_list zs (by omega) n,hzl] at hc
 refine⟨_,⟨by rw[List.length_replicate,Array.length_toList,hlen],.inr ⟨w.heap.size,0,n,by rw[List.length_replicate],Nat.le_refl _,by simp,by rw[List.length_replicate];exact Nat.le_refl _,hn,fun j hj=>?_,fun j v hv=>?_⟩⟩,hc.keep fun b hb _=>hb.elim⟩
 ·rw[Nat.zero_add,World.cell?_alloc_new,Array.getElem?_eq_getElem (by rw[hlen];exact hj)]
  exact⟨rfl,World.frozen?_alloc_new _ _ _ _⟩
 ·rw[Nat.zero_add,World.cell?_alloc_new,← Array.getElem?_toList]
  exact hv
end
/-! ### Numbers -/
abbrev I64 (x:Int):Prop:=-9223372036854775808≤x∧x≤9223372036854775807
instance:Rep Int where
 sz:=1
 is _ _ cs x:=cs=[.int .i64 x]∧I64 x
 len:=by rintro w S cs x ⟨rfl,_⟩;rfl
 one:=by rintro w S cs x ⟨rfl,_⟩ u hu;(obtain rfl:u=_:=(by simpa using hu));rfl
 keep:=fun h _=>h
instance:Rep UInt8 where
 sz:=1
 is _ _ cs x:=cs=[.int .u8 x.toNat]
 len:=by rintro w S cs x rfl;rfl
 one:=by rintro w S cs x rfl u hu;(obtain rfl:u=_:=(by simpa using hu));rfl
 keep:=fun h _=>h
instance:Rep Bool where
 sz:=1
 is _ _ cs x:=cs=[.bool x]
 len:=by rintro w S cs x rfl;rfl
 one:=by rintro w S cs x rfl u hu;(obtain rfl:u=_:=(by simpa using hu));rfl
 keep:=fun h _=>h
theorem Chunks.ints {w:World} {S:Nat→Prop}:∀ {xs:List Value} {l:List Int},Chunks w S xs l↔xs=l.map (Value.int .i64)∧∀ x ∈ l,I64 x
 |xs,[]=>by simp [Chunks]
 |xs,a :: l=>by
  constructor
  ·rintro⟨c,r,rfl,⟨rfl,h1⟩,hr⟩
   obtain⟨rfl,h2⟩:=Chunks.ints.1 hr
   exact⟨rfl,fun x hx=>(List.mem_cons.1 hx).elim (fun e=>e ▸ h1) (h2 x)⟩
  ·rintro⟨rfl,h⟩
   exact⟨[.int .i64 a],l.map (Value.int .i64),rfl,⟨rfl,h a (by simp)⟩,Chunks.ints.2 ⟨rfl,fun x hx=>h x (by simp [hx])⟩⟩
theorem Rd.lst {w:World} {B n:Nat} {v:Value} {l:List Int} (h:Rd w B 1 v n (l.map (Value.int .i64))) (hl:∀ x ∈ l,I64 x):Lst w (Lo B) v l:=by
 obtain⟨h1,a,cap,rfl,hn,hc,hr⟩:=h
 have e:l.length=n:=by simpa using h1
 subst e
 refine⟨_,a,cap,rfl,hn,hc,Chunks.ints.2 ⟨rfl,hl⟩,fun h0=>?_⟩
 obtain⟨g,off,ha,hg,hr'⟩:=hr h0
 exact⟨g,off,ha,⟨hg,block_lt_of_cell (hr' 0 (.int .i64 (l[0]'h0)) (by simp [h0]))⟩,hr'⟩
theorem Lst.rd {w:World} {B:Nat} {v:Value} {l:List Int} (h:Lst w (Lo B) v l):Rd w B 1 v l.length (l.map (Value.int .i64)):=by
 obtain⟨xs,a,cap,rfl,hn,hc,hx,hr⟩:=h
 obtain⟨rfl,_⟩:=Chunks.ints.1 hx
 exact⟨by simp,a,cap,rfl,hn,hc,fun h0=>let ⟨g,off,ha,hg,hr'⟩:=hr h0;⟨g,off,ha,hg.1,hr'⟩⟩
theorem Lst.i64 {w:World} {S:Nat→Prop} {v:Value} {l:List Int} (h:Lst w S v l):∀ x ∈ l,I64 x:=by
 obtain⟨xs,a,cap,rfl,hn,hc,hx,hr⟩:=h
 exact (Chunks.ints.1 hx).2
theorem OwnT.own {w:World} {B:Nat} {T:Nat→Prop} {v:Value} {l:List Int} (h:OwnT w B T v l):Own w B 1 v l.length (l.map (Value.int .i64))∧∀ x ∈ l,I64 x:=by
 obtain⟨xs,ho,hx⟩:=h
 obtain⟨rfl,h2⟩:=Chunks.ints.1 hx
 exact⟨ho,h2⟩
theorem Own.ownT {w:World} {B n:Nat} {T:Nat→Prop} {v:Value} {l:List Int} (h:Own w B 1 v n (l.map (Value.int .i64))) (hl:∀ x ∈ l,I64 x):OwnT w B T v l:=by
 have e:l.length=n:=by simpa using h.1
 subst e
 exact⟨_,h,Chunks.ints.2 ⟨rfl,hl⟩⟩
theorem Lst.src {α:Type} [Rep α] {w:World} {S:Nat→Prop} {v:Value} {l:List α} {P:Program} {tx e':TypeId} (h:Lst w S v l) (hk:P.underlying tx=some (.slice e')):∃ xs,Chunks w S xs l∧Src P (Rep.sz α) tx v l.length xs w:=by
 obtain⟨xs,a,cap,rfl,hn,hc,hx,hr⟩:=h
 refine⟨xs,hx,?_⟩
 rcases Nat.eq_zero_or_pos l.length with h0|h0
 ·have hxs:xs=[]:=List.eq_nil_of_length_eq_zero (by rw[hx.len,h0,Nat.zero_mul])
  subst hxs
  rw[h0]
  cases a with
  |none=>exact Src.ofNil w hk cap
  |some a=>exact Src.ofSlice w hk a 0 cap [] (by simp) (fun j u hu=>by simp at hu) (by simp)
 ·obtain⟨g,off,rfl,_,hr'⟩:=hr h0
  exact Src.ofSlice w hk _ _ cap xs hx.len (fun j u hu=>by rw[Addr.add_lit];exact hr' j u hu) hx.one
end Go.Proofs.YticdbambknflgaaGreat
