/- ScriptBack and ScriptSteps as their statements give them: bytes as numbers, texts as they are. -/
import Derived.Test.YticdbambknflgaaGreatMLaA
section
namespace Go.Proofs.YticdbambknflgaaGreat.Sc
open Go.Proofs.YticdbambknflgaaGreat.Sim
open Go Go.RowKit
set_option maxRecDepth 100000
set_option maxHeartbeats 8000000
set_option linter.unusedVariables false
set_option linter.unusedSimpArgs false
attribute [local irreducible] Go Mean
open Go.Proofs.YticdbambknflgaaGreat.Wire (putB putL putB_len getI getL getC rdL getI_put getL_put getI_ok getI_err rInt_any IntPost)
theorem steps27 (l:List UInt8) (hl:l.length≤140737488355328) (k:Nat):DoesE Tryz.prog 7 [.bp 29000 0 0] [(29000,.box 0 [.d (dBytes l),I k])] (fun r bx=>∃ xs,∃ k':Nat,r=.d (dSts xs)∧bx=[(29000,.box 0 [.d (dBytes l),I k'])]∧xs.length≤8∧∀ x ∈ xs,Small x) :=
 DoesE.mono (DoesE.nm (stepsT l hl k) [(900000,29000,0)] rfl rfl rfl rfl rfl fun r bx' ⟨xs,k',h1,h2,_,_⟩=>by subst h1 h2;exact⟨rfl,rfl,rfl⟩) fun r bx ⟨r0,bx0,⟨xs,k',h1,h2,h3,h4⟩,h5,h6⟩=>⟨xs,k',by rw[h5,h1];rfl,by rw[h6,h2];rfl,h3,h4⟩
theorem modD (a k:Int) (h:0<k) (h2:k<4611686018427387904):Does Tryz.prog 15 [I a,I k] [] (I (a % k)) [] []:=by
 refine wD Tryz.func15 fun cx hm0=>?_
 have hp:∀ {x:Int},0≤x→x.tmod k=x % k:=fun h=>Int.tmod_eq_emod_of_nonneg h
 have hr:-k<a.tmod k∧a.tmod k<k:=by
  rcases Int.le_total 0 a with h0|h0
  ·rw[hp h0];have:=Int.emod_nonneg a (show k ≠ 0 by omega);have:=Int.emod_lt_of_pos a h;omega
  ·have e:=Int.neg_tmod (-a) k
   rw[Int.neg_neg,hp (x:=-a) (by omega)] at e
   have:=Int.emod_nonneg (-a) (show k ≠ 0 by omega);have:=Int.emod_lt_of_pos (-a) h
   rw[e];omega
 have hm:a.tmod k % k=a % k:=by rw[Int.tmod_def,Int.sub_mul_emod_self_left]
 by_cases h0:a.tmod k<0
 ·have q:decide (a.tmod k<0)=true:=decide_eq_true h0
  have he:a.tmod k+k=a % k:=by
   rw[← hm,← Int.add_emod_right,Int.emod_eq_of_lt (by omega) (by omega)]
  repeat' (first|refine gA q ?_|refine sp ?_ ?_ <;> intro h|(with_reducible apply And.intro)|exact aG|fail)
  exact rtF [] he
 ·have q:decide (a.tmod k<0)=false:=decide_eq_false h0
  have he:a.tmod k=a % k:=by
   rw[← hm,Int.emod_eq_of_lt (by omega) (by omega)]
  repeat' (first|refine gA q ?_|refine sp ?_ ?_ <;> intro h|(with_reducible apply And.intro)|exact aG|fail)
  exact rtF [] he
def eStr (l:List UInt8):List D:=[.at (.string ⟨l.toArray⟩)]
theorem encL_pos (l:List PSt) (h:l.length≤600):0<(encL l).length:=by
 have:=(putB_len (n:=(l.length:Int)) (by omega) (by omega)).2
 simp only[encL,List.length_append]
 omega
theorem encL_len {l:List PSt} (h:l.length≤600) (hc:∀ x ∈ l,okSt x∧chk x=true):(encL l).length≤10+l.length*41000000:=by
 have h1:=(putB_len (n:=(l.length:Int)) (by omega) (by omega)).1
 have h2:∀ l:List PSt,(∀ x ∈ l,okSt x∧chk x=true)→(l.flatMap encSt).length≤l.length*41000000:=by
  intro l
  induction l with
  |nil=>intro _;simp
  |cons x r ih =>
   intro h
   have a:=encSt_len (h x List.mem_cons_self).1 (h x List.mem_cons_self).2
   have b:=ih fun y hy=>h y (List.mem_cons_of_mem _ hy)
   rw[List.flatMap_cons,List.length_append,List.length_cons]
   omega
 have h3:=h2 l hc
 simp only[encL,List.length_append]
 omega
theorem all_chk {l:List PSt} (h:∀ x ∈ l,chk x=true):l.all chk=true:=List.all_eq_true.2 h
theorem lawBack (s data:List UInt8) (at_:Int) (by_:UInt8) (hs:s.length≤140737488355328):Does Tryz.prog 4 [.d (dBytes s),vS data,I at_,.d (.at (.int .u8 by_.toNat))] [] (B true) [] []:=by
 have hl:(s.take 300).length≤140737488355328:=by rw[List.length_take];omega
 have e0:=Sim.dice s hs
 generalize s.take 300=l at *
 have e1:=steps27 l hl 0
 refine doesD ⟨⟨_,rfl⟩,wE Tryz.func4 fun cx hm0=>?_⟩
 have z0:(⟨data.toArray⟩:ByteArray).size=data.length:=rfl
 by_cases hd:data.length≤200
 ·have q0:decide ((data.length:Int) > 200)=false:=decide_eq_false (by omega)
  have q0':decide (200<(data.length:Int))=false:=decide_eq_false (by omega)
  repeat' (first|refine gC z0 q0 q0' ?_|refine sp ?_ ?_ <;> intro h|(exfalso;omega)|refine gP sane41 ?_|refine gN e0 ?_|(refine gE e1 ?_;rintro _ _ ⟨xs,k,rfl,rfl,hn,hx⟩ <;> refine gG ?_)|(with_reducible apply And.intro)|exact aG|fail)
  have hc:xs.length≤512∧xs.all chk=true:=⟨by omega,all_chk fun x h=>(hx x h).ck⟩
  have hok:∀ x ∈ xs,okSt x∧chk x=true:=fun x h=>⟨(hx x h).ok,(hx x h).ck⟩
  have e2:=encodeD xs (by omega) (fun x h=>(hx x h).ok)
  rw[encS,encE,if_pos hc,if_pos hc] at e2
  have hb0:=encL_pos xs (by omega)
  have hb1:=encL_len (by omega) hok
  have e3:=decodeD' (encL xs) (by omega)
  rw[decG_enc (by omega) hok] at e3
  have e4:=sameD xs xs (by omega) (by omega) (fun x h=>(hx x h).q) (fun x h=>(hx x h).q)
  rw[eqB_s] at e4
  generalize encL xs=b at *
  have e5:=modD at_ (b.length:Int) (by omega) (by omega)
  have hi0:=Int.emod_nonneg at_ (show (b.length:Int) ≠ 0 by omega)
  have hi1:=Int.emod_lt_of_pos at_ (show 0<(b.length:Int) by omega)
  obtain⟨i,hi⟩:∃ i:Nat,at_ % (b.length:Int)=(i:Int):=⟨(at_ % (b.length:Int)).toNat,by omega⟩
  rw[hi] at e5 hi0 hi1
  have z1:(⟨b.toArray⟩:ByteArray).size=b.length:=rfl
  have z2:(⟨b.toArray⟩:ByteArray).data.toList=b:=rfl
  have q1:((b.length:Int) == 0)=false:=by rw[beq_eq_false_iff_ne];omega
  have q2:(true != true)=false:=rfl
  have hib:i<b.length:=by omega
  have hset:(b.map byU).set i (D.at (.int .u8 (by_.toNat:Int)) :: List.drop 1 ((b.map byU).getD i []))=(b.set i by_).map byU:=by
   rw[getD_map byU [] 0 b i hib,List.map_set];rfl
  have hsl:(b.set i by_).length≤1000000000000:=by rw[List.length_set];omega
  repeat' (first|simp (maxSteps:=9999999) only[↓GE,PQ,seval,z1,z2,q1,q2,hib,hset,unBy_map]|refine gS ?_|refine sp ?_ ?_ <;> intro h|refine gP e2 ?_|refine gP e3 ?_|refine gP e4 ?_|refine gP e5 ?_|(with_reducible apply And.intro)|exact aG|fail)
  generalize b.set i by_=c at *
  have hvl:∀ y ∈ [data,c],y.length≤1000000000000:=by
   intro y hy
   simp only[List.mem_cons,List.not_mem_nil,or_false] at hy
   rcases hy with rfl|rfl <;> omega
  have hr1:[[D.at (.string ⟨data.toArray⟩)],[D.at (.string ⟨c.toArray⟩)]]=[data,c].map eStr:=rfl
  have hll:[data,c].length=2:=rfl
  generalize [data,c]=ls at *
  refine go_loopz 5000 hm0 (ι:={i:Nat // i≤2}) (fun i=>[(68,.d (.sl 1 (ls.map eStr))),(69,I 2),(70,I i.1)]) (fun i=>[]) (fun i=>2-i.1) [.og 68 0] [] ⟨0,Nat.zero_le _⟩ ?_ ?_
  ·exact aY hr1
  rintro⟨k,hk⟩
  by_cases hlt:k<2
  ·have h1:=getD_map eStr [] [] ls k (by omega)
   have hx1:=hvl _ (mem_getD [] ls k (by omega))
   generalize ls.getD k []=y at *
   have q4:decide ((k:Int)<2)=true:=decide_eq_true (by omega)
   have e6:=decodeD' y hx1
   by_cases hz:(decG y).2=0
   ·obtain⟨g1,g2,g3⟩:=decG_ok (s:=y) (l:=(decG y).1) (by rw[← hz])
    have e7:=encodeD (decG y).1 (by omega) (fun x h=>(g2 x h).1)
    have hc2:(decG y).1.length≤512∧(decG y).1.all chk=true:=⟨g1,all_chk fun x h=>(g2 x h).2⟩
    rw[encS,encE,if_pos hc2,if_pos hc2,g3] at e7
    rw[hz] at e6
    have q5:((⟨y.toArray⟩:ByteArray).toList == (⟨y.toArray⟩:ByteArray).toList)=true:=by simp
    generalize (decG y).1=n at *
    repeat' (first|simp (maxSteps:=9999999) only[↓GE,PQ,seval,h1,q4,q5,hll,eStr]|refine gS ?_|refine sp ?_ ?_ <;> intro h|refine gP e6 ?_|refine gP e7 ?_|(with_reducible apply And.intro)|exact aG|fail)
    refine⟨[],[],⟨k+1,hlt⟩,?_,by simp only;omega⟩
    exact aX
   ·have q5:((decG y).2 == 0)=false:=by rw[beq_eq_false_iff_ne];exact hz
    generalize (decG y).1=n at *
    generalize (decG y).2=e at *
    repeat' (first|simp (maxSteps:=9999999) only[↓GE,PQ,seval,h1,q4,q5,hll,eStr]|refine gS ?_|refine sp ?_ ?_ <;> intro h|refine gP e6 ?_|(with_reducible apply And.intro)|exact aG|fail)
    refine⟨[],[],⟨k+1,hlt⟩,?_,by simp only;omega⟩
    exact aX
  ·obtain rfl:k=2:=by omega
   repeat' (first|refine gS ?_|refine sp ?_ ?_ <;> intro h|(with_reducible apply And.intro)|exact aG|fail)
   all_goals (refine dP ?_;exact rfl)
 ·have q0:decide ((data.length:Int) > 200)=true:=decide_eq_true (by omega)
  have q0':decide (200<(data.length:Int))=true:=decide_eq_true (by omega)
  repeat' (first|refine gC z0 q0 q0' ?_|refine sp ?_ ?_ <;> intro h|refine gP sane41 ?_|(with_reducible apply And.intro)|exact aG|fail)
  all_goals (refine dP ?_;exact rfl)
end Go.Proofs.YticdbambknflgaaGreat.Sc
end
section
namespace Go.Proofs.YticdbambknflgaaGreat.Sc
open Go.Proofs.YticdbambknflgaaGreat.Sim
open Go Go.RowKit
set_option maxRecDepth 100000
set_option maxHeartbeats 8000000
set_option linter.unusedVariables false
set_option linter.unusedSimpArgs false
attribute [local irreducible] Go Mean
open Go.Proofs.YticdbambknflgaaGreat.Wire (putB putL putB_len getI getL getC rdL getI_put getL_put getI_ok getI_err rInt_any IntPost)
theorem steps78 (l:List UInt8) (hl:l.length≤140737488355328) (k:Nat):DoesE Tryz.prog 7 [.bp 80000 0 0] [(80000,.box 0 [.d (dBytes l),I k])] (fun r bx=>∃ xs,∃ k':Nat,r=.d (dSts xs)∧bx=[(80000,.box 0 [.d (dBytes l),I k'])]∧xs.length≤8∧∀ x ∈ xs,Small x) :=
 DoesE.mono (DoesE.nm (stepsT l hl k) [(900000,80000,0)] rfl rfl rfl rfl rfl fun r bx' ⟨xs,k',h1,h2,_,_⟩=>by subst h1 h2;exact⟨rfl,rfl,rfl⟩) fun r bx ⟨r0,bx0,⟨xs,k',h1,h2,h3,h4⟩,h5,h6⟩=>⟨xs,k',by rw[h5,h1];rfl,by rw[h6,h2];rfl,h3,h4⟩
structure okR (x:PSt):Prop where
 kind:I64 x.kind
 num:I64 x.num
 fr:I64 x.fr
 tt:I64 x.tt
 cnt:I64 x.cnt
 row:∀ n ∈ x.rows,I64 n
 set:∀ s ∈ x.sets,okSe s
theorem okR.st {x:PSt} (h:okR x) (h1:x.rows.length≤2000) (h2:x.sets.length≤2000):okSt x:=⟨h.kind,h.num,h.fr,h.tt,h.cnt,h1,h.row,h2,h.set⟩
theorem okSt.q {x:PSt} (h:okSt x):okQ x:=⟨by have:=h.len;omega,by have:=h.slen;omega,fun s hs=>(h.set s hs).2.1⟩
theorem okNo:okSt noSt:=⟨⟨by decide,by decide⟩,⟨by decide,by decide⟩,⟨by decide,by decide⟩,⟨by decide,by decide⟩,⟨by decide,by decide⟩,by decide,(fun n hn=>by cases hn),by decide,(fun n hn=>by cases hn)⟩
theorem decG_q (s:List UInt8):(decG s).1.length≤1000000∧∀ x ∈ (decG s).1,okQ x:=by
 by_cases h:(decG s).2=0
 ·obtain⟨h1,h2,_⟩:=decG_ok (s:=s) (l:=(decG s).1) (by rw[← h])
  exact⟨by omega,fun x hx=>(h2 x hx).1.q⟩
 ·have:(decG s).1=[]:=by
   unfold decG at h ⊢
   simp only at h ⊢
   split
   ·rfl
   ·rename_i h1
    rw[if_neg h1] at h
    split
    ·rfl
    ·rename_i h2
     rw[if_neg h2] at h
     exact absurd rfl h
  rw[this]
  exact⟨by simp,fun x hx=>by cases hx⟩
theorem getG_q (s:List UInt8) (a:Int):okQ (getG s a).1:=by
 unfold getG
 split
 ·exact okNo.q
 ·rename_i h
  have h0:(stepG s a 0).2.2=0:=by simpa using h
  exact (stepG_ok (s:=s) (a:=a) (e:=0) (x:=(stepG s a 0).1) (b:=(stepG s a 0).2.1) (Prod.ext rfl (Prod.ext rfl h0))).2.1.q
theorem encS_len (l:List PSt) (h:l.length≤600) (hk:∀ x ∈ l,okSt x):(encS l).length≤10+l.length*41000000:=by
 unfold encS
 split
 ·rename_i hc
  exact encL_len h fun x hx=>⟨hk x hx,List.all_eq_true.1 hc.2 x hx⟩
 ·simp
def eBA (s:ByteArray):List D:=[.at (.string s)]
theorem five5 {v c data:List UInt8} (h1:v.length≤1000000000) (h2:c.length≤1000000000) (h3:data.length≤1000000000):∀ y ∈ [(⟨v.toArray⟩:ByteArray),⟨c.toArray⟩,⟨data.toArray⟩,⟨v.toArray⟩++⟨#[120]⟩,(⟨v.toArray⟩:ByteArray).extract 0 (v.length / 2)],y.size≤1000000000000:=by
 have s1:∀ l:List UInt8,(⟨l.toArray⟩:ByteArray).size=l.length:=fun l=>rfl
 have s2:(⟨#[120]⟩:ByteArray).size=1:=rfl
 intro y hy
 simp only[List.mem_cons,List.not_mem_nil,or_false] at hy
 rcases hy with rfl|rfl|rfl|rfl|rfl
 ·rw[s1];omega
 ·rw[s1];omega
 ·rw[s1];omega
 ·rw[ByteArray.size_append,s1,s2];omega
 ·rw[ByteArray.size_extract,s1];omega
def okX (l:List PSt):Prop:=l.length≤8∧∀ x ∈ l,okSt x
def ints5 (a:Int) (n:Nat):List Int:=[a,0,1,(n:Int),-1]
theorem lawSteps (s:List UInt8) (raw:List PSt) (data:List UInt8) (at_:Int) (by_:UInt8) (b:List UInt8) (hs:s.length≤140737488355328) (hraw:∀ x ∈ raw,okR x):Does Tryz.prog 5 [.d (dBytes s),.d (dSts raw),vS data,I at_,.d (.at (.int .u8 by_.toNat)),vS b] [] (B true) [] []:=by
 have hl:(s.take 300).length≤140737488355328:=by rw[List.length_take];omega
 have e0:=Sim.dice s hs
 generalize s.take 300=l at *
 have e1:=steps78 l hl 0
 refine doesD ⟨⟨_,rfl⟩,wE Tryz.func5 fun cx hm0=>?_⟩
 have z0:(⟨data.toArray⟩:ByteArray).size=data.length:=rfl
 have z1:(⟨b.toArray⟩:ByteArray).size=b.length:=rfl
 by_cases hsm:raw.length≤5∧data.length≤200∧b.length≤50
 ·obtain⟨hr5,hd,hb⟩:=hsm
  have q1:decide ((raw.length:Int) > 5)=false:=decide_eq_false (by omega)
  have q2:decide ((data.length:Int) > 200)=false:=decide_eq_false (by omega)
  have q3:decide ((b.length:Int) > 50)=false:=decide_eq_false (by omega)
  repeat' (first|simp (maxSteps:=9999999) only[↓GE,PQ,seval,z0,z1,q1,q2,q3]|refine gS ?_|refine sp ?_ ?_ <;> intro h|refine gP sane41 ?_|(with_reducible apply And.intro)|exact aG|fail)
  refine go_loop 5000 hm0 (ι:={k:Nat // k≤raw.length∧∀ x ∈ raw.take k,x.rows.length≤20∧x.sets.length≤4}) (fun i=>[(0,.d (dBytes s)),(1,.d (dSts raw)),(2,vS data),(3,I at_),(4,.d (.at (.int .u8 by_.toNat))),(5,vS b),(59,.d (dSts raw)),(60,I raw.length),(61,I i.1)]) (fun i=>[]) (fun i=>raw.length-i.1) [] ⟨0,Nat.zero_le _,by simp⟩ ?_ ?_
  ·exact aH
  rintro⟨k,hk,hsmall⟩
  by_cases hlt:k<raw.length
  ·have h1:=getD_map eSt [] noSt raw k hlt
   have hta:raw.take (k+1)=raw.take k++[raw.getD k noSt]:=by
    rw[List.take_succ_eq_append_getElem hlt,List.getD_eq_getElem?_getD,List.getElem?_eq_getElem hlt];rfl
   have q4:decide ((k:Int)<(raw.length:Int))=true:=decide_eq_true (by omega)
   by_cases hx:(raw.getD k noSt).rows.length≤20∧(raw.getD k noSt).sets.length≤4
   ·have hnext:∀ x ∈ raw.take (k+1),x.rows.length≤20∧x.sets.length≤4:=fun x hx'=>by
     rw[hta] at hx'
     rcases List.mem_append.1 hx' with h|h
     ·exact hsmall x h
     ·rw[List.mem_singleton.1 h];exact hx
    generalize raw.getD k noSt=x at *
    have q5:decide ((x.rows.length:Int) > 20)=false:=decide_eq_false (by omega)
    have q6:decide ((x.sets.length:Int) > 4)=false:=decide_eq_false (by omega)
    repeat' (first|simp (maxSteps:=9999999) only[↓GE,PQ,seval,h1,q4,q5,q6,eSt]|refine gS ?_|refine sp ?_ ?_ <;> intro h|(with_reducible apply And.intro)|exact aG|fail)
    refine⟨⟨k+1,hlt,hnext⟩,?_,by simp only;omega⟩
    exact aH
   ·generalize raw.getD k noSt=x at *
    by_cases hx2:x.rows.length≤20
    ·have q5:decide ((x.rows.length:Int) > 20)=false:=decide_eq_false (by omega)
     have q6:decide ((x.sets.length:Int) > 4)=true:=decide_eq_true (by omega)
     repeat' (first|simp (maxSteps:=9999999) only[↓GE,PQ,seval,h1,q4,q5,q6,eSt]|refine gS ?_|refine sp ?_ ?_ <;> intro h|(with_reducible apply And.intro)|exact aG|fail)
     all_goals (refine dP ?_;exact rfl)
    ·have q5:decide ((x.rows.length:Int) > 20)=true:=decide_eq_true (by omega)
     repeat' (first|refine gQ h1 q4 q5 eSt.eq_1 ?_|refine sp ?_ ?_ <;> intro h|(with_reducible apply And.intro)|exact aG|fail)
     all_goals (refine dP ?_;exact rfl)
  ·obtain rfl:k=raw.length:=by omega
   rw[List.take_length] at hsmall
   repeat' (first|refine gS ?_|refine sp ?_ ?_ <;> intro h|(exfalso;omega)|refine gN e0 ?_|(refine gE e1 ?_;rintro _ _ ⟨xs,k,rfl,rfl,hn,hx⟩ <;> refine gG ?_)|(with_reducible apply And.intro)|exact aG|fail)
   refine go_loopz 5000 hm0 (ι:={k:Nat // k≤3}) (fun i=>[(2,vS data),(3,I at_),(4,.d (.at (.int .u8 by_.toNat))),(5,vS b),(16,.d (dSts xs)),(83,.ep 83 0 3 1),(84,I 3),(85,I i.1)]) (fun i=>[(83,.box 0 [.d (dSts xs),.d (dSts raw),.nl 7])]) (fun i=>3-i.1) [] [] ⟨0,Nat.zero_le _⟩ ?_ ?_
   ·exact aX
   rintro⟨k,hk3⟩
   obtain rfl|rfl|rfl|rfl:k=0∨k=1∨k=2∨k=3:=by omega
   ·obtain⟨hx8,hxo⟩:okX xs:=⟨hn,fun z hz=>(hx z hz).ok⟩
    have e2:=encodeD xs (by omega) hxo
    have e3:=rEncodeD xs (by omega) hxo
    have e4:=sameD xs xs (by omega) (by omega) (fun y h=>(hxo y h).q) (fun y h=>(hx y h).q)
    have e5:=same41 xs xs (by omega) (by omega) (fun y h=>(hxo y h).q) (fun y h=>(hx y h).q)
    have hv1:=encS_len xs (by omega) hxo
    have hv2:(encS xs).length≤1000000000:=by omega
    clear hv1
    generalize encS xs=v at *
    generalize encE xs=ev at *
    generalize eqB xs xs=bx at *
    have q5:(ev != ev)=false:=by simp
    have q6:((⟨v.toArray⟩:ByteArray).toList != (⟨v.toArray⟩:ByteArray).toList)=false:=by simp
    have q7:(bx != bx)=false:=by simp
    have z2:(⟨v.toArray⟩:ByteArray).size=v.length:=rfl
    have z3:(⟨v.toArray⟩:ByteArray).data.toList=v:=rfl
    have z4:(⟨#[120]⟩:ByteArray).size=1:=rfl
    have w2:IntKind.i64.wrap (((v.length:Nat):Int).tdiv 2)=((v.length / 2:Nat):Int):=by rw[show ((v.length:Nat):Int).tdiv 2=((v.length / 2:Nat):Int) from rfl];exact IntWalk.i64_in _ (by omega)
    by_cases hv0:0<v.length
    case' pos =>
     have e6:=modD at_ (v.length:Int) (by omega) (by omega)
     have hi0:=Int.emod_nonneg at_ (show (v.length:Int) ≠ 0 by omega)
     have hi1:=Int.emod_lt_of_pos at_ (show 0<(v.length:Int) by omega)
     obtain⟨i,hi⟩:∃ i:Nat,at_ % (v.length:Int)=(i:Int):=⟨(at_ % (v.length:Int)).toNat,by omega⟩
     rw[hi] at e6 hi0 hi1
     have hib:i<v.length:=by omega
     have hset:(v.map byU).set i (D.at (.int .u8 (by_.toNat:Int)) :: List.drop 1 ((v.map byU).getD i []))=(v.set i by_).map byU:=by
      rw[getD_map byU [] 0 v i hib,List.map_set];rfl
     have q8:decide ((v.length:Int) > 0)=true:=decide_eq_true (by omega)
     repeat' (first|simp (maxSteps:=9999999) only[↓GE,PQ,seval,q5,q6,q7,q8,z2,z3,z4,w2,hib,hset,unBy_map]|refine gS ?_|refine sp ?_ ?_ <;> intro h|refine gP e2 ?_|refine gP e3 ?_|refine gP e4 ?_|refine gP e5 ?_|refine gP e6 ?_|(with_reducible apply And.intro)|exact aG|fail)
     have hcl:(v.set i by_).length=v.length:=List.length_set
     have hs2:∀ y ∈ [(⟨v.toArray⟩:ByteArray),⟨(v.set i by_).toArray⟩,⟨data.toArray⟩,⟨v.toArray⟩++⟨#[120]⟩,(⟨v.toArray⟩:ByteArray).extract 0 (v.length / 2)],y.size≤1000000000000:=five5 (by omega) (by have:=hcl;omega) (by omega)
     have hr2:[[D.at (.string ⟨v.toArray⟩)],[D.at (.string ⟨(v.set i by_).toArray⟩)],[D.at (.string ⟨data.toArray⟩)],[D.at (.string (⟨v.toArray⟩++⟨#[120]⟩))],[D.at (.string ((⟨v.toArray⟩:ByteArray).extract 0 (v.length / 2)))]]=[(⟨v.toArray⟩:ByteArray),⟨(v.set i by_).toArray⟩,⟨data.toArray⟩,⟨v.toArray⟩++⟨#[120]⟩,(⟨v.toArray⟩:ByteArray).extract 0 (v.length / 2)].map eBA:=rfl
     have hl2:([(⟨v.toArray⟩:ByteArray),⟨(v.set i by_).toArray⟩,⟨data.toArray⟩,⟨v.toArray⟩++⟨#[120]⟩,(⟨v.toArray⟩:ByteArray).extract 0 (v.length / 2)]).length=5:=rfl
     generalize [(⟨v.toArray⟩:ByteArray),⟨(v.set i by_).toArray⟩,⟨data.toArray⟩,⟨v.toArray⟩++⟨#[120]⟩,(⟨v.toArray⟩:ByteArray).extract 0 (v.length / 2)]=ls2 at *
    case' neg =>
     have q8:decide ((v.length:Int) > 0)=false:=decide_eq_false (by omega)
     repeat' (first|simp (maxSteps:=9999999) only[↓GE,PQ,seval,q5,q6,q7,q8,z2,z3,z4,w2,unBy_map]|refine gS ?_|refine sp ?_ ?_ <;> intro h|refine gP e2 ?_|refine gP e3 ?_|refine gP e4 ?_|refine gP e5 ?_|(with_reducible apply And.intro)|exact aG|fail)
     have hcl:v.length=v.length:=rfl
     have hs2:∀ y ∈ [(⟨v.toArray⟩:ByteArray),⟨(v).toArray⟩,⟨data.toArray⟩,⟨v.toArray⟩++⟨#[120]⟩,(⟨v.toArray⟩:ByteArray).extract 0 (v.length / 2)],y.size≤1000000000000:=five5 (by omega) (by have:=hcl;omega) (by omega)
     have hr2:[[D.at (.string ⟨v.toArray⟩)],[D.at (.string ⟨(v).toArray⟩)],[D.at (.string ⟨data.toArray⟩)],[D.at (.string (⟨v.toArray⟩++⟨#[120]⟩))],[D.at (.string ((⟨v.toArray⟩:ByteArray).extract 0 (v.length / 2)))]]=[(⟨v.toArray⟩:ByteArray),⟨(v).toArray⟩,⟨data.toArray⟩,⟨v.toArray⟩++⟨#[120]⟩,(⟨v.toArray⟩:ByteArray).extract 0 (v.length / 2)].map eBA:=rfl
     have hl2:([(⟨v.toArray⟩:ByteArray),⟨(v).toArray⟩,⟨data.toArray⟩,⟨v.toArray⟩++⟨#[120]⟩,(⟨v.toArray⟩:ByteArray).extract 0 (v.length / 2)]).length=5:=rfl
     generalize [(⟨v.toArray⟩:ByteArray),⟨(v).toArray⟩,⟨data.toArray⟩,⟨v.toArray⟩++⟨#[120]⟩,(⟨v.toArray⟩:ByteArray).extract 0 (v.length / 2)]=ls2 at *
    all_goals (
     refine go_loopz 5000 hm0 (ι:={j:Nat // j≤5}) (fun i=>[(2,vS data),(3,I at_),(4,.d (.at (.int .u8 by_.toNat))),(5,vS b),(16,.d (dSts xs)),(83,.ep 83 0 3 1),(84,I 3),(85,I 0),(18,.d (dSts xs)),(139,.d (.sl 1 (ls2.map eBA))),(140,I 5),(141,I i.1)]) (fun i=>[(83,.box 0 [.d (dSts xs),.d (dSts raw),.nl 7])]) (fun i=>5-i.1) [.og 139 0] [] ⟨0,Nat.zero_le _⟩ ?_ ?_
     ·exact aY hr2
     rintro⟨j,hj⟩
     by_cases hj5:j<5
     ·have g1:=getD_map eBA [] ByteArray.empty ls2 j (by omega)
      have g2:=hs2 _ (mem_getD ByteArray.empty ls2 j (by omega))
      generalize ls2.getD j ByteArray.empty=y0 at *
      obtain⟨y,rfl⟩:∃ y:List UInt8,y0=⟨y.toArray⟩:=⟨y0.data.toList,by cases y0;simp⟩
      have hy:y.length≤1000000000000:=g2
      have p1:decide ((j:Int)<5)=true:=decide_eq_true (by omega)
      have e7:=decodeD' y hy
      have e8:=rDecodeD y hy
      obtain⟨dq1,dq2⟩:=decG_q y
      have e9:=same41 (decG y).1 (decG y).1 dq1 dq1 dq2 dq2
      rw[eqB_s] at e9
      generalize (decG y).1=n at *
      generalize (decG y).2=ne at *
      have p2:(ne != ne)=false:=by simp
      have z5:(⟨y.toArray⟩:ByteArray).size=y.length:=rfl
      repeat' (first|simp (maxSteps:=9999999) only[↓GE,PQ,seval,g1,p1,p2,z5,hl2,eBA]|refine gS ?_|refine sp ?_ ?_ <;> intro h|refine gP e7 ?_|refine gP e8 ?_|refine gP e9 ?_|(with_reducible apply And.intro)|exact aG|fail)
      have hr3:[[D.at (.int .i64 at_)],[D.at (.int .i64 0)],[D.at (.int .i64 1)],[D.at (.int .i64 (y.length:Int))],[D.at (.int .i64 (-1))]]=(ints5 at_ y.length).map eI:=rfl
      have hl3:(ints5 at_ y.length).length=5:=rfl
      generalize ints5 at_ y.length=ks at *
      refine go_loopz 5000 hm0 (ι:={m:Nat // m≤5}) (fun i=>[(2,vS data),(3,I at_),(4,.d (.at (.int .u8 by_.toNat))),(5,vS b),(16,.d (dSts xs)),(83,.ep 83 0 3 1),(84,I 3),(85,I 0),(18,.d (dSts xs)),(139,.d (.sl 1 (ls2.map eBA))),(140,I 5),(141,I j),(25,vS y),(167,.d (dInts ks)),(168,I 5),(169,I i.1)]) (fun i=>[(83,.box 0 [.d (dSts xs),.d (dSts raw),.nl 7])]) (fun i=>5-i.1) [.og 167 0] [] ⟨0,Nat.zero_le _⟩ ?_ ?_
      ·exact aY (And.intro hr3 dInts.eq_1)
      rintro⟨m,hm⟩
      by_cases hm5:m<5
      ·have g3:=getD_map eI [] 0 ks m (by omega)
       generalize ks.getD m 0=a at *
       have p3:decide ((m:Int)<5)=true:=decide_eq_true (by omega)
       have e10:=getD' y a hy
       have e11:=rGetD y a hy
       have gq:=getG_q y a
       have e12:=one41 (getG y a).1 (getG y a).1 gq gq
       rw[eqB_s] at e12
       generalize (getG y a).1=gp at *
       generalize (getG y a).2.1=ga at *
       generalize (getG y a).2.2=ge at *
       have p4:(ga != ga)=false:=by simp
       have p5:(ge != ge)=false:=by simp
       repeat' (first|simp (maxSteps:=9999999) only[↓GE,PQ,seval,g3,p3,p4,p5,hl3,eI]|refine gS ?_|refine sp ?_ ?_ <;> intro h|refine gP e10 ?_|refine gP e11 ?_|refine gP e12 ?_|(with_reducible apply And.intro)|exact aG|fail)
       refine⟨[],[],⟨m+1,hm5⟩,?_,by simp only;omega⟩
       exact aX
      ·obtain rfl:m=5:=by omega
       repeat' (first|refine gS ?_|refine sp ?_ ?_ <;> intro h|(with_reducible apply And.intro)|exact aG|fail)
       refine⟨[],[],⟨j+1,hj5⟩,?_,by simp only;omega⟩
       exact aX
     ·obtain rfl:j=5:=by omega
      repeat' (first|refine gS ?_|refine sp ?_ ?_ <;> intro h|(with_reducible apply And.intro)|exact aG|fail)
      refine go_loopz 5000 hm0 (ι:={q:Nat // q≤xs.length}) (fun i=>[(2,vS data),(3,I at_),(4,.d (.at (.int .u8 by_.toNat))),(5,vS b),(16,.d (dSts xs)),(83,.ep 83 0 3 1),(84,I 3),(85,I 0),(203,.d (dSts xs)),(204,I xs.length),(205,I i.1)]) (fun i=>[(83,.box 0 [.d (dSts xs),.d (dSts raw),.nl 7])]) (fun i=>xs.length-i.1) [] [] ⟨0,Nat.zero_le _⟩ ?_ ?_
      ·exact aX
      rintro⟨q,hq⟩
      by_cases hq5:q<xs.length
      ·have g1:=getD_map eSt [] noSt xs q hq5
       have g2:=hxo _ (mem_getD noSt xs q hq5)
       generalize xs.getD q noSt=z at *
       have p1:decide ((q:Int)<(xs.length:Int))=true:=decide_eq_true (by omega)
       have e7:=putD b z g2 (by omega)
       have e8:=rPutD b z g2 (by omega)
       have e9:=checkD z g2
       have e10:=rCheckD z g2
       generalize outS b z=o at *
       generalize outE z=oe at *
       generalize (if chk z=true then (0:Int) else 4)=ce at *
       have p2:(oe != oe)=false:=by simp
       have p3:((⟨o.toArray⟩:ByteArray).toList != (⟨o.toArray⟩:ByteArray).toList)=false:=by simp
       have p4:(ce != ce)=false:=by simp
       repeat' (first|simp (maxSteps:=9999999) only[↓GE,PQ,seval,g1,p1,p2,p3,p4,eSt]|refine gS ?_|refine sp ?_ ?_ <;> intro h|refine gP e7 ?_|refine gP e8 ?_|refine gP e9 ?_|refine gP e10 ?_|(with_reducible apply And.intro)|exact aG|fail)
       refine⟨[],[],⟨q+1,hq5⟩,?_,by simp only;omega⟩
       exact aX
      ·obtain rfl:q=xs.length:=by omega
       repeat' (first|refine gS ?_|refine sp ?_ ?_ <;> intro h|(with_reducible apply And.intro)|exact aG|fail)
       refine⟨[],[],⟨0+1,by omega⟩,?_,by simp only;omega⟩
       exact aX)
   ·obtain⟨hx8,hxo⟩:okX raw:=⟨by omega,fun z hz=>(hraw z hz).st (by have:=(hsmall z hz).1;omega) (by have:=(hsmall z hz).2;omega)⟩
    have e2:=encodeD raw (by omega) hxo
    have e3:=rEncodeD raw (by omega) hxo
    have e4:=sameD raw xs (by omega) (by omega) (fun y h=>(hxo y h).q) (fun y h=>(hx y h).q)
    have e5:=same41 raw xs (by omega) (by omega) (fun y h=>(hxo y h).q) (fun y h=>(hx y h).q)
    have hv1:=encS_len raw (by omega) hxo
    have hv2:(encS raw).length≤1000000000:=by omega
    clear hv1
    generalize encS raw=v at *
    generalize encE raw=ev at *
    generalize eqB raw xs=bx at *
    have q5:(ev != ev)=false:=by simp
    have q6:((⟨v.toArray⟩:ByteArray).toList != (⟨v.toArray⟩:ByteArray).toList)=false:=by simp
    have q7:(bx != bx)=false:=by simp
    have z2:(⟨v.toArray⟩:ByteArray).size=v.length:=rfl
    have z3:(⟨v.toArray⟩:ByteArray).data.toList=v:=rfl
    have z4:(⟨#[120]⟩:ByteArray).size=1:=rfl
    have w2:IntKind.i64.wrap (((v.length:Nat):Int).tdiv 2)=((v.length / 2:Nat):Int):=by rw[show ((v.length:Nat):Int).tdiv 2=((v.length / 2:Nat):Int) from rfl];exact IntWalk.i64_in _ (by omega)
    by_cases hv0:0<v.length
    case' pos =>
     have e6:=modD at_ (v.length:Int) (by omega) (by omega)
     have hi0:=Int.emod_nonneg at_ (show (v.length:Int) ≠ 0 by omega)
     have hi1:=Int.emod_lt_of_pos at_ (show 0<(v.length:Int) by omega)
     obtain⟨i,hi⟩:∃ i:Nat,at_ % (v.length:Int)=(i:Int):=⟨(at_ % (v.length:Int)).toNat,by omega⟩
     rw[hi] at e6 hi0 hi1
     have hib:i<v.length:=by omega
     have hset:(v.map byU).set i (D.at (.int .u8 (by_.toNat:Int)) :: List.drop 1 ((v.map byU).getD i []))=(v.set i by_).map byU:=by
      rw[getD_map byU [] 0 v i hib,List.map_set];rfl
     have q8:decide ((v.length:Int) > 0)=true:=decide_eq_true (by omega)
     repeat' (first|simp (maxSteps:=9999999) only[↓GE,PQ,seval,q5,q6,q7,q8,z2,z3,z4,w2,hib,hset,unBy_map]|refine gS ?_|refine sp ?_ ?_ <;> intro h|refine gP e2 ?_|refine gP e3 ?_|refine gP e4 ?_|refine gP e5 ?_|refine gP e6 ?_|(with_reducible apply And.intro)|exact aG|fail)
     have hcl:(v.set i by_).length=v.length:=List.length_set
     have hs2:∀ y ∈ [(⟨v.toArray⟩:ByteArray),⟨(v.set i by_).toArray⟩,⟨data.toArray⟩,⟨v.toArray⟩++⟨#[120]⟩,(⟨v.toArray⟩:ByteArray).extract 0 (v.length / 2)],y.size≤1000000000000:=five5 (by omega) (by have:=hcl;omega) (by omega)
     have hr2:[[D.at (.string ⟨v.toArray⟩)],[D.at (.string ⟨(v.set i by_).toArray⟩)],[D.at (.string ⟨data.toArray⟩)],[D.at (.string (⟨v.toArray⟩++⟨#[120]⟩))],[D.at (.string ((⟨v.toArray⟩:ByteArray).extract 0 (v.length / 2)))]]=[(⟨v.toArray⟩:ByteArray),⟨(v.set i by_).toArray⟩,⟨data.toArray⟩,⟨v.toArray⟩++⟨#[120]⟩,(⟨v.toArray⟩:ByteArray).extract 0 (v.length / 2)].map eBA:=rfl
     have hl2:([(⟨v.toArray⟩:ByteArray),⟨(v.set i by_).toArray⟩,⟨data.toArray⟩,⟨v.toArray⟩++⟨#[120]⟩,(⟨v.toArray⟩:ByteArray).extract 0 (v.length / 2)]).length=5:=rfl
     generalize [(⟨v.toArray⟩:ByteArray),⟨(v.set i by_).toArray⟩,⟨data.toArray⟩,⟨v.toArray⟩++⟨#[120]⟩,(⟨v.toArray⟩:ByteArray).extract 0 (v.length / 2)]=ls2 at *
    case' neg =>
     have q8:decide ((v.length:Int) > 0)=false:=decide_eq_false (by omega)
     repeat' (first|simp (maxSteps:=9999999) only[↓GE,PQ,seval,q5,q6,q7,q8,z2,z3,z4,w2,unBy_map]|refine gS ?_|refine sp ?_ ?_ <;> intro h|refine gP e2 ?_|refine gP e3 ?_|refine gP e4 ?_|refine gP e5 ?_|(with_reducible apply And.intro)|exact aG|fail)
     have hcl:v.length=v.length:=rfl
     have hs2:∀ y ∈ [(⟨v.toArray⟩:ByteArray),⟨(v).toArray⟩,⟨data.toArray⟩,⟨v.toArray⟩++⟨#[120]⟩,(⟨v.toArray⟩:ByteArray).extract 0 (v.length / 2)],y.size≤1000000000000:=five5 (by omega) (by have:=hcl;omega) (by omega)
     have hr2:[[D.at (.string ⟨v.toArray⟩)],[D.at (.string ⟨(v).toArray⟩)],[D.at (.string ⟨data.toArray⟩)],[D.at (.string (⟨v.toArray⟩++⟨#[120]⟩))],[D.at (.string ((⟨v.toArray⟩:ByteArray).extract 0 (v.length / 2)))]]=[(⟨v.toArray⟩:ByteArray),⟨(v).toArray⟩,⟨data.toArray⟩,⟨v.toArray⟩++⟨#[120]⟩,(⟨v.toArray⟩:ByteArray).extract 0 (v.length / 2)].map eBA:=rfl
     have hl2:([(⟨v.toArray⟩:ByteArray),⟨(v).toArray⟩,⟨data.toArray⟩,⟨v.toArray⟩++⟨#[120]⟩,(⟨v.toArray⟩:ByteArray).extract 0 (v.length / 2)]).length=5:=rfl
     generalize [(⟨v.toArray⟩:ByteArray),⟨(v).toArray⟩,⟨data.toArray⟩,⟨v.toArray⟩++⟨#[120]⟩,(⟨v.toArray⟩:ByteArray).extract 0 (v.length / 2)]=ls2 at *
    all_goals (
     refine go_loopz 5000 hm0 (ι:={j:Nat // j≤5}) (fun i=>[(2,vS data),(3,I at_),(4,.d (.at (.int .u8 by_.toNat))),(5,vS b),(16,.d (dSts xs)),(83,.ep 83 0 3 1),(84,I 3),(85,I 1),(18,.d (dSts raw)),(139,.d (.sl 1 (ls2.map eBA))),(140,I 5),(141,I i.1)]) (fun i=>[(83,.box 0 [.d (dSts xs),.d (dSts raw),.nl 7])]) (fun i=>5-i.1) [.og 139 0] [] ⟨0,Nat.zero_le _⟩ ?_ ?_
     ·exact aY hr2
     rintro⟨j,hj⟩
     by_cases hj5:j<5
     ·have g1:=getD_map eBA [] ByteArray.empty ls2 j (by omega)
      have g2:=hs2 _ (mem_getD ByteArray.empty ls2 j (by omega))
      generalize ls2.getD j ByteArray.empty=y0 at *
      obtain⟨y,rfl⟩:∃ y:List UInt8,y0=⟨y.toArray⟩:=⟨y0.data.toList,by cases y0;simp⟩
      have hy:y.length≤1000000000000:=g2
      have p1:decide ((j:Int)<5)=true:=decide_eq_true (by omega)
      have e7:=decodeD' y hy
      have e8:=rDecodeD y hy
      obtain⟨dq1,dq2⟩:=decG_q y
      have e9:=same41 (decG y).1 (decG y).1 dq1 dq1 dq2 dq2
      rw[eqB_s] at e9
      generalize (decG y).1=n at *
      generalize (decG y).2=ne at *
      have p2:(ne != ne)=false:=by simp
      have z5:(⟨y.toArray⟩:ByteArray).size=y.length:=rfl
      repeat' (first|simp (maxSteps:=9999999) only[↓GE,PQ,seval,g1,p1,p2,z5,hl2,eBA]|refine gS ?_|refine sp ?_ ?_ <;> intro h|refine gP e7 ?_|refine gP e8 ?_|refine gP e9 ?_|(with_reducible apply And.intro)|exact aG|fail)
      have hr3:[[D.at (.int .i64 at_)],[D.at (.int .i64 0)],[D.at (.int .i64 1)],[D.at (.int .i64 (y.length:Int))],[D.at (.int .i64 (-1))]]=(ints5 at_ y.length).map eI:=rfl
      have hl3:(ints5 at_ y.length).length=5:=rfl
      generalize ints5 at_ y.length=ks at *
      refine go_loopz 5000 hm0 (ι:={m:Nat // m≤5}) (fun i=>[(2,vS data),(3,I at_),(4,.d (.at (.int .u8 by_.toNat))),(5,vS b),(16,.d (dSts xs)),(83,.ep 83 0 3 1),(84,I 3),(85,I 1),(18,.d (dSts raw)),(139,.d (.sl 1 (ls2.map eBA))),(140,I 5),(141,I j),(25,vS y),(167,.d (dInts ks)),(168,I 5),(169,I i.1)]) (fun i=>[(83,.box 0 [.d (dSts xs),.d (dSts raw),.nl 7])]) (fun i=>5-i.1) [.og 167 0] [] ⟨0,Nat.zero_le _⟩ ?_ ?_
      ·exact aY (And.intro hr3 dInts.eq_1)
      rintro⟨m,hm⟩
      by_cases hm5:m<5
      ·have g3:=getD_map eI [] 0 ks m (by omega)
       generalize ks.getD m 0=a at *
       have p3:decide ((m:Int)<5)=true:=decide_eq_true (by omega)
       have e10:=getD' y a hy
       have e11:=rGetD y a hy
       have gq:=getG_q y a
       have e12:=one41 (getG y a).1 (getG y a).1 gq gq
       rw[eqB_s] at e12
       generalize (getG y a).1=gp at *
       generalize (getG y a).2.1=ga at *
       generalize (getG y a).2.2=ge at *
       have p4:(ga != ga)=false:=by simp
       have p5:(ge != ge)=false:=by simp
       repeat' (first|simp (maxSteps:=9999999) only[↓GE,PQ,seval,g3,p3,p4,p5,hl3,eI]|refine gS ?_|refine sp ?_ ?_ <;> intro h|refine gP e10 ?_|refine gP e11 ?_|refine gP e12 ?_|(with_reducible apply And.intro)|exact aG|fail)
       refine⟨[],[],⟨m+1,hm5⟩,?_,by simp only;omega⟩
       exact aX
      ·obtain rfl:m=5:=by omega
       repeat' (first|refine gS ?_|refine sp ?_ ?_ <;> intro h|(with_reducible apply And.intro)|exact aG|fail)
       refine⟨[],[],⟨j+1,hj5⟩,?_,by simp only;omega⟩
       exact aX
     ·obtain rfl:j=5:=by omega
      repeat' (first|refine gS ?_|refine sp ?_ ?_ <;> intro h|(with_reducible apply And.intro)|exact aG|fail)
      refine go_loopz 5000 hm0 (ι:={q:Nat // q≤raw.length}) (fun i=>[(2,vS data),(3,I at_),(4,.d (.at (.int .u8 by_.toNat))),(5,vS b),(16,.d (dSts xs)),(83,.ep 83 0 3 1),(84,I 3),(85,I 1),(203,.d (dSts raw)),(204,I raw.length),(205,I i.1)]) (fun i=>[(83,.box 0 [.d (dSts xs),.d (dSts raw),.nl 7])]) (fun i=>raw.length-i.1) [] [] ⟨0,Nat.zero_le _⟩ ?_ ?_
      ·exact aX
      rintro⟨q,hq⟩
      by_cases hq5:q<raw.length
      ·have g1:=getD_map eSt [] noSt raw q hq5
       have g2:=hxo _ (mem_getD noSt raw q hq5)
       generalize raw.getD q noSt=z at *
       have p1:decide ((q:Int)<(raw.length:Int))=true:=decide_eq_true (by omega)
       have e7:=putD b z g2 (by omega)
       have e8:=rPutD b z g2 (by omega)
       have e9:=checkD z g2
       have e10:=rCheckD z g2
       generalize outS b z=o at *
       generalize outE z=oe at *
       generalize (if chk z=true then (0:Int) else 4)=ce at *
       have p2:(oe != oe)=false:=by simp
       have p3:((⟨o.toArray⟩:ByteArray).toList != (⟨o.toArray⟩:ByteArray).toList)=false:=by simp
       have p4:(ce != ce)=false:=by simp
       repeat' (first|simp (maxSteps:=9999999) only[↓GE,PQ,seval,g1,p1,p2,p3,p4,eSt]|refine gS ?_|refine sp ?_ ?_ <;> intro h|refine gP e7 ?_|refine gP e8 ?_|refine gP e9 ?_|refine gP e10 ?_|(with_reducible apply And.intro)|exact aG|fail)
       refine⟨[],[],⟨q+1,hq5⟩,?_,by simp only;omega⟩
       exact aX
      ·obtain rfl:q=raw.length:=by omega
       repeat' (first|refine gS ?_|refine sp ?_ ?_ <;> intro h|(with_reducible apply And.intro)|exact aG|fail)
       refine⟨[],[],⟨1+1,by omega⟩,?_,by simp only;omega⟩
       exact aX)
   ·obtain⟨hx8,hxo⟩:okX []:=⟨by simp,fun z hz=>by cases hz⟩
    have e2:=encodeD [] (by omega) hxo
    have e3:=rEncodeD [] (by omega) hxo
    have e4:=sameD [] xs (by omega) (by omega) (fun y h=>(hxo y h).q) (fun y h=>(hx y h).q)
    have e5:=same41 [] xs (by omega) (by omega) (fun y h=>(hxo y h).q) (fun y h=>(hx y h).q)
    have hv1:=encS_len [] (by omega) hxo
    have hv2:(encS []).length≤1000000000:=by omega
    clear hv1
    generalize encS []=v at *
    generalize encE []=ev at *
    generalize eqB [] xs=bx at *
    have q5:(ev != ev)=false:=by simp
    have q6:((⟨v.toArray⟩:ByteArray).toList != (⟨v.toArray⟩:ByteArray).toList)=false:=by simp
    have q7:(bx != bx)=false:=by simp
    have z2:(⟨v.toArray⟩:ByteArray).size=v.length:=rfl
    have z3:(⟨v.toArray⟩:ByteArray).data.toList=v:=rfl
    have z4:(⟨#[120]⟩:ByteArray).size=1:=rfl
    have w2:IntKind.i64.wrap (((v.length:Nat):Int).tdiv 2)=((v.length / 2:Nat):Int):=by rw[show ((v.length:Nat):Int).tdiv 2=((v.length / 2:Nat):Int) from rfl];exact IntWalk.i64_in _ (by omega)
    by_cases hv0:0<v.length
    case' pos =>
     have e6:=modD at_ (v.length:Int) (by omega) (by omega)
     have hi0:=Int.emod_nonneg at_ (show (v.length:Int) ≠ 0 by omega)
     have hi1:=Int.emod_lt_of_pos at_ (show 0<(v.length:Int) by omega)
     obtain⟨i,hi⟩:∃ i:Nat,at_ % (v.length:Int)=(i:Int):=⟨(at_ % (v.length:Int)).toNat,by omega⟩
     rw[hi] at e6 hi0 hi1
     have hib:i<v.length:=by omega
     have hset:(v.map byU).set i (D.at (.int .u8 (by_.toNat:Int)) :: List.drop 1 ((v.map byU).getD i []))=(v.set i by_).map byU:=by
      rw[getD_map byU [] 0 v i hib,List.map_set];rfl
     have q8:decide ((v.length:Int) > 0)=true:=decide_eq_true (by omega)
     repeat' (first|simp (maxSteps:=9999999) only[↓GE,PQ,seval,q5,q6,q7,q8,z2,z3,z4,w2,hib,hset,unBy_map]|refine gS ?_|refine sp ?_ ?_ <;> intro h|refine gP e2 ?_|refine gP e3 ?_|refine gP e4 ?_|refine gP e5 ?_|refine gP e6 ?_|(with_reducible apply And.intro)|exact aG|fail)
     have hcl:(v.set i by_).length=v.length:=List.length_set
     have hs2:∀ y ∈ [(⟨v.toArray⟩:ByteArray),⟨(v.set i by_).toArray⟩,⟨data.toArray⟩,⟨v.toArray⟩++⟨#[120]⟩,(⟨v.toArray⟩:ByteArray).extract 0 (v.length / 2)],y.size≤1000000000000:=five5 (by omega) (by have:=hcl;omega) (by omega)
     have hr2:[[D.at (.string ⟨v.toArray⟩)],[D.at (.string ⟨(v.set i by_).toArray⟩)],[D.at (.string ⟨data.toArray⟩)],[D.at (.string (⟨v.toArray⟩++⟨#[120]⟩))],[D.at (.string ((⟨v.toArray⟩:ByteArray).extract 0 (v.length / 2)))]]=[(⟨v.toArray⟩:ByteArray),⟨(v.set i by_).toArray⟩,⟨data.toArray⟩,⟨v.toArray⟩++⟨#[120]⟩,(⟨v.toArray⟩:ByteArray).extract 0 (v.length / 2)].map eBA:=rfl
     have hl2:([(⟨v.toArray⟩:ByteArray),⟨(v.set i by_).toArray⟩,⟨data.toArray⟩,⟨v.toArray⟩++⟨#[120]⟩,(⟨v.toArray⟩:ByteArray).extract 0 (v.length / 2)]).length=5:=rfl
     generalize [(⟨v.toArray⟩:ByteArray),⟨(v.set i by_).toArray⟩,⟨data.toArray⟩,⟨v.toArray⟩++⟨#[120]⟩,(⟨v.toArray⟩:ByteArray).extract 0 (v.length / 2)]=ls2 at *
    case' neg =>
     have q8:decide ((v.length:Int) > 0)=false:=decide_eq_false (by omega)
     repeat' (first|simp (maxSteps:=9999999) only[↓GE,PQ,seval,q5,q6,q7,q8,z2,z3,z4,w2,unBy_map]|refine gS ?_|refine sp ?_ ?_ <;> intro h|refine gP e2 ?_|refine gP e3 ?_|refine gP e4 ?_|refine gP e5 ?_|(with_reducible apply And.intro)|exact aG|fail)
     have hcl:v.length=v.length:=rfl
     have hs2:∀ y ∈ [(⟨v.toArray⟩:ByteArray),⟨(v).toArray⟩,⟨data.toArray⟩,⟨v.toArray⟩++⟨#[120]⟩,(⟨v.toArray⟩:ByteArray).extract 0 (v.length / 2)],y.size≤1000000000000:=five5 (by omega) (by have:=hcl;omega) (by omega)
     have hr2:[[D.at (.string ⟨v.toArray⟩)],[D.at (.string ⟨(v).toArray⟩)],[D.at (.string ⟨data.toArray⟩)],[D.at (.string (⟨v.toArray⟩++⟨#[120]⟩))],[D.at (.string ((⟨v.toArray⟩:ByteArray).extract 0 (v.length / 2)))]]=[(⟨v.toArray⟩:ByteArray),⟨(v).toArray⟩,⟨data.toArray⟩,⟨v.toArray⟩++⟨#[120]⟩,(⟨v.toArray⟩:ByteArray).extract 0 (v.length / 2)].map eBA:=rfl
     have hl2:([(⟨v.toArray⟩:ByteArray),⟨(v).toArray⟩,⟨data.toArray⟩,⟨v.toArray⟩++⟨#[120]⟩,(⟨v.toArray⟩:ByteArray).extract 0 (v.length / 2)]).length=5:=rfl
     generalize [(⟨v.toArray⟩:ByteArray),⟨(v).toArray⟩,⟨data.toArray⟩,⟨v.toArray⟩++⟨#[120]⟩,(⟨v.toArray⟩:ByteArray).extract 0 (v.length / 2)]=ls2 at *
    all_goals (
     obtain⟨X,hX⟩:∃ X:List PSt,X=[]:=⟨_,rfl⟩
     rw[← hX] at hxo
     have hX8:X.length≤8:=by rw[hX];decide
     refine go_loopz 5000 hm0 (ι:={j:Nat // j≤5}) (fun i=>[(2,vS data),(3,I at_),(4,.d (.at (.int .u8 by_.toNat))),(5,vS b),(16,.d (dSts xs)),(83,.ep 83 0 3 1),(84,I 3),(85,I 2),(18,.d (dSts X)),(139,.d (.sl 1 (ls2.map eBA))),(140,I 5),(141,I i.1)]) (fun i=>[(83,.box 0 [.d (dSts xs),.d (dSts raw),.nl 7])]) (fun i=>5-i.1) [.og 139 0] [] ⟨0,Nat.zero_le _⟩ ?_ ?_
     ·exact aY (And.intro hr2 hX)
     rintro⟨j,hj⟩
     by_cases hj5:j<5
     ·have g1:=getD_map eBA [] ByteArray.empty ls2 j (by omega)
      have g2:=hs2 _ (mem_getD ByteArray.empty ls2 j (by omega))
      generalize ls2.getD j ByteArray.empty=y0 at *
      obtain⟨y,rfl⟩:∃ y:List UInt8,y0=⟨y.toArray⟩:=⟨y0.data.toList,by cases y0;simp⟩
      have hy:y.length≤1000000000000:=g2
      have p1:decide ((j:Int)<5)=true:=decide_eq_true (by omega)
      have e7:=decodeD' y hy
      have e8:=rDecodeD y hy
      obtain⟨dq1,dq2⟩:=decG_q y
      have e9:=same41 (decG y).1 (decG y).1 dq1 dq1 dq2 dq2
      rw[eqB_s] at e9
      generalize (decG y).1=n at *
      generalize (decG y).2=ne at *
      have p2:(ne != ne)=false:=by simp
      have z5:(⟨y.toArray⟩:ByteArray).size=y.length:=rfl
      repeat' (first|simp (maxSteps:=9999999) only[↓GE,PQ,seval,g1,p1,p2,z5,hl2,eBA]|refine gS ?_|refine sp ?_ ?_ <;> intro h|refine gP e7 ?_|refine gP e8 ?_|refine gP e9 ?_|(with_reducible apply And.intro)|exact aG|fail)
      have hr3:[[D.at (.int .i64 at_)],[D.at (.int .i64 0)],[D.at (.int .i64 1)],[D.at (.int .i64 (y.length:Int))],[D.at (.int .i64 (-1))]]=(ints5 at_ y.length).map eI:=rfl
      have hl3:(ints5 at_ y.length).length=5:=rfl
      generalize ints5 at_ y.length=ks at *
      refine go_loopz 5000 hm0 (ι:={m:Nat // m≤5}) (fun i=>[(2,vS data),(3,I at_),(4,.d (.at (.int .u8 by_.toNat))),(5,vS b),(16,.d (dSts xs)),(83,.ep 83 0 3 1),(84,I 3),(85,I 2),(18,.d (dSts X)),(139,.d (.sl 1 (ls2.map eBA))),(140,I 5),(141,I j),(25,vS y),(167,.d (dInts ks)),(168,I 5),(169,I i.1)]) (fun i=>[(83,.box 0 [.d (dSts xs),.d (dSts raw),.nl 7])]) (fun i=>5-i.1) [.og 167 0] [] ⟨0,Nat.zero_le _⟩ ?_ ?_
      ·exact aY (And.intro hr3 dInts.eq_1)
      rintro⟨m,hm⟩
      by_cases hm5:m<5
      ·have g3:=getD_map eI [] 0 ks m (by omega)
       generalize ks.getD m 0=a at *
       have p3:decide ((m:Int)<5)=true:=decide_eq_true (by omega)
       have e10:=getD' y a hy
       have e11:=rGetD y a hy
       have gq:=getG_q y a
       have e12:=one41 (getG y a).1 (getG y a).1 gq gq
       rw[eqB_s] at e12
       generalize (getG y a).1=gp at *
       generalize (getG y a).2.1=ga at *
       generalize (getG y a).2.2=ge at *
       have p4:(ga != ga)=false:=by simp
       have p5:(ge != ge)=false:=by simp
       repeat' (first|simp (maxSteps:=9999999) only[↓GE,PQ,seval,g3,p3,p4,p5,hl3,eI]|refine gS ?_|refine sp ?_ ?_ <;> intro h|refine gP e10 ?_|refine gP e11 ?_|refine gP e12 ?_|(with_reducible apply And.intro)|exact aG|fail)
       refine⟨[],[],⟨m+1,hm5⟩,?_,by simp only;omega⟩
       exact aX
      ·obtain rfl:m=5:=by omega
       repeat' (first|refine gS ?_|refine sp ?_ ?_ <;> intro h|(with_reducible apply And.intro)|exact aG|fail)
       refine⟨[],[],⟨j+1,hj5⟩,?_,by simp only;omega⟩
       exact aX
     ·obtain rfl:j=5:=by omega
      repeat' (first|refine gS ?_|refine sp ?_ ?_ <;> intro h|(with_reducible apply And.intro)|exact aG|fail)
      refine go_loopz 5000 hm0 (ι:={q:Nat // q≤X.length}) (fun i=>[(2,vS data),(3,I at_),(4,.d (.at (.int .u8 by_.toNat))),(5,vS b),(16,.d (dSts xs)),(83,.ep 83 0 3 1),(84,I 3),(85,I 2),(203,.d (dSts X)),(204,I X.length),(205,I i.1)]) (fun i=>[(83,.box 0 [.d (dSts xs),.d (dSts raw),.nl 7])]) (fun i=>X.length-i.1) [] [] ⟨0,Nat.zero_le _⟩ ?_ ?_
      ·exact aX
      rintro⟨q,hq⟩
      by_cases hq5:q<X.length
      ·have g1:=getD_map eSt [] noSt X q hq5
       have g2:=hxo _ (mem_getD noSt X q hq5)
       generalize X.getD q noSt=z at *
       have p1:decide ((q:Int)<(X.length:Int))=true:=decide_eq_true (by omega)
       have e7:=putD b z g2 (by omega)
       have e8:=rPutD b z g2 (by omega)
       have e9:=checkD z g2
       have e10:=rCheckD z g2
       generalize outS b z=o at *
       generalize outE z=oe at *
       generalize (if chk z=true then (0:Int) else 4)=ce at *
       have p2:(oe != oe)=false:=by simp
       have p3:((⟨o.toArray⟩:ByteArray).toList != (⟨o.toArray⟩:ByteArray).toList)=false:=by simp
       have p4:(ce != ce)=false:=by simp
       repeat' (first|simp (maxSteps:=9999999) only[↓GE,PQ,seval,g1,p1,p2,p3,p4,eSt]|refine gS ?_|refine sp ?_ ?_ <;> intro h|refine gP e7 ?_|refine gP e8 ?_|refine gP e9 ?_|refine gP e10 ?_|(with_reducible apply And.intro)|exact aG|fail)
       refine⟨[],[],⟨q+1,hq5⟩,?_,by simp only;omega⟩
       exact aX
      ·obtain rfl:q=X.length:=by omega
       repeat' (first|refine gS ?_|refine sp ?_ ?_ <;> intro h|(with_reducible apply And.intro)|exact aG|fail)
       refine⟨[],[],⟨2+1,by omega⟩,?_,by simp only;omega⟩
       exact aX)
   ·repeat' (first|refine gS ?_|refine sp ?_ ?_ <;> intro h|(with_reducible apply And.intro)|exact aG|fail)
    all_goals (refine dP ?_;exact rfl)
 ·have q:(decide ((raw.length:Int) > 5)||(decide ((data.length:Int) > 200)||decide ((b.length:Int) > 50)))=true:=by
   simp only[Bool.or_eq_true,decide_eq_true_eq];omega
  by_cases h1:raw.length≤5
  ·have q1:decide ((raw.length:Int) > 5)=false:=decide_eq_false (by omega)
   by_cases h2:data.length≤200
   ·have q2:decide ((data.length:Int) > 200)=false:=decide_eq_false (by omega)
    have q3:decide ((b.length:Int) > 50)=true:=decide_eq_true (by omega)
    repeat' (first|simp (maxSteps:=9999999) only[↓GE,PQ,seval,z0,z1,q1,q2,q3]|refine gS ?_|refine sp ?_ ?_ <;> intro h|refine gP sane41 ?_|(with_reducible apply And.intro)|exact aG|fail)
    all_goals (refine dP ?_;exact rfl)
   ·have q2:decide ((data.length:Int) > 200)=true:=decide_eq_true (by omega)
    repeat' (first|refine gQ z0 z1 q1 q2 ?_|refine sp ?_ ?_ <;> intro h|refine gP sane41 ?_|(with_reducible apply And.intro)|exact aG|fail)
    all_goals (refine dP ?_;exact rfl)
  ·have q1:decide ((raw.length:Int) > 5)=true:=decide_eq_true (by omega)
   repeat' (first|refine gC z0 z1 q1 ?_|refine sp ?_ ?_ <;> intro h|refine gP sane41 ?_|(with_reducible apply And.intro)|exact aG|fail)
   all_goals (refine dP ?_;exact rfl)
end Go.Proofs.YticdbambknflgaaGreat.Sc
end
section
namespace Go.Proofs.YticdbambknflgaaGreat.Sc
open Go.Proofs.YticdbambknflgaaGreat.Sim
open Go Go.RowKit
set_option maxRecDepth 100000
set_option maxHeartbeats 8000000
set_option linter.unusedVariables false
set_option linter.unusedSimpArgs false
attribute [local irreducible] Go Mean
open Go.Proofs.YticdbambknflgaaGreat.Wire (putB putL putB_len getI getL getC rdL getI_put getL_put getI_ok getI_err rInt_any IntPost)
theorem lawBackI (l:List UInt8) (hl:l.length≤140737488355328) (d:ByteArray) (a:Int) (y:Int) (h0:0≤y) (h1:y≤255):Does Tryz.prog 4 [.d (dBytes l),.d (.at (.string d)),I a,.d (.at (.int .u8 y))] [] (B true) [] []:=by
 have e:(((UInt8.ofNat y.toNat).toNat:Nat):Int)=y:=by rw[UInt8.toNat_ofNat',Nat.mod_eq_of_lt (by omega)];omega
 have hd:d=⟨d.data.toList.toArray⟩:=by cases d;simp
 have:=lawBack l d.data.toList a (UInt8.ofNat y.toNat) hl
 rw[e] at this
 rw[hd]
 exact this
theorem lawStepsI (l:List UInt8) (hl:l.length≤140737488355328) (raw:List PSt) (hr:∀ x ∈ raw,okR x) (d:ByteArray) (a:Int) (y:Int) (h0:0≤y) (h1:y≤255) (b:ByteArray):Does Tryz.prog 5 [.d (dBytes l),.d (dSts raw),.d (.at (.string d)),I a,.d (.at (.int .u8 y)),.d (.at (.string b))] [] (B true) [] []:=by
 have e:(((UInt8.ofNat y.toNat).toNat:Nat):Int)=y:=by rw[UInt8.toNat_ofNat',Nat.mod_eq_of_lt (by omega)];omega
 have hd:d=⟨d.data.toList.toArray⟩:=by cases d;simp
 have hb:b=⟨b.data.toList.toArray⟩:=by cases b;simp
 have:=lawSteps l raw d.data.toList a (UInt8.ofNat y.toNat) b.data.toList hl hr
 rw[e] at this
 rw[hd,hb]
 exact this
end Go.Proofs.YticdbambknflgaaGreat.Sc
end
