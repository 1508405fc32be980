/- Tables that dice give; publishers: taken over from chapter 37. -/
import Derived.Test.YticdbambknflgaaGreatMWoT
section
namespace Go.Proofs.YticdbambknflgaaGreat.Sim
open Go
set_option maxRecDepth 100000
set_option maxHeartbeats 4000000
set_option linter.unusedVariables false
set_option linter.unusedSimpArgs false
attribute [local irreducible] Go Mean
deriving instance DecidableEq for PTab
def RowsOK (p w:Int) (rows:List (List Int)):Prop:=∀ r ∈ rows,r.length=w.toNat∧r.all (inE p)=true
theorem rowsErr_ok {p w:Int} (hw:0≤w):∀ {rows:List (List Int)},rowsErr p w rows=0↔RowsOK p w rows
 |[]=>by simp [rowsErr,RowsOK]
 |r :: l=>by
  have ih:=rowsErr_ok (p:=p) hw (rows:=l)
  simp only[RowsOK,List.mem_cons,forall_eq_or_imp] at ih ⊢
  rw[rowsErr]
  split
  ·rename_i h;simp;omega
  ·rename_i h
   split
   ·rename_i h2
    rw[ih]
    exact⟨fun g=>⟨⟨by omega,h2⟩,g⟩,fun g=>g.2⟩
   ·rename_i h2
    exact⟨fun g=>by simp at g,fun g=>absurd g.1.2 h2⟩
theorem allIn {p:Int} {l:List Int}:l.all (inE p)=true↔∀ x ∈ l,0≤x∧x<p:=by simp [inE,List.all_eq_true]
theorem elmG_all {l:List UInt8} {p:Int} {k n:Nat} (hp:1≤p):(elmG l p k n).1.all (inE p)=true:=allIn.2 (elmG_in hp)
def fldList:List Int:=[7,11,13,257]
def fldV (l:List UInt8) (k:Nat):Int:=fldList.getD (pickV l k 4).toNat 0
theorem fieldB_four:∀ n:Nat,n<4→fieldB (fldList.getD n 0)=true:=by
 intro n hn
 have key:∀ n:Nat,n<4→2≤fldList.getD n 0∧fldList.getD n 0≤65521∧fldList.getD n 0≤257∧∀ d:Nat,d<17→2≤d→((d*d:Nat):Int)≤fldList.getD n 0→(fldList.getD n 0).tmod (d:Nat) ≠ 0:=by decide +kernel
 obtain⟨h1,h2,h0,h3⟩:=key n hn
 rw[fieldB_iff]
 refine⟨h1,h2,fun d hd hdd=>?_⟩
 obtain⟨e,rfl⟩:=Int.eq_ofNat_of_zero_le (show 0≤d by omega)
 refine h3 e ?_ (by omega) (by rw[Int.natCast_mul];exact hdd)
 apply Nat.lt_of_not_le
 intro h
 have h4:(17:Int)*17≤(e:Int)*e:=Int.mul_le_mul (by omega) (by omega) (by omega) (by omega)
 omega
theorem fldV_ok (l:List UInt8) (k:Nat):fieldB (fldV l k)=true∧7≤fldV l k∧fldV l k≤257:=by
 have:=pickV_in l k 4 (by omega)
 have h:=fieldB_four (pickV l k 4).toNat (by omega)
 have key:∀ n:Nat,n<4→7≤fldList.getD n 0∧fldList.getD n 0≤257:=by decide
 exact⟨h,key _ (by omega)⟩
theorem dfield (l:List UInt8) (hl:l.length≤140737488355328) (k:Nat):Does Tryz.prog 47 [dcp] (dc l k) (.ag [I (fldV l k)]) (dc l (pickK l k)) []:=by
 refine wB Tryz.func47 BxOK.one fun cx hm0=>?_
 have hn:=pick l hl k 4 (by omega)
 have hx:=pickV_in l k 4 (by omega)
 unfold fldV
 generalize pickV l k 4=x at hn hx
 have hx:x=0∨x=1∨x=2∨x=3:=by omega
 rcases hx with rfl|rfl|rfl|rfl
 all_goals
  repeat' (first|simp (maxSteps:=9999999) only[↓GE,PQ,seval,fldList,List.set_cons_zero,List.set_cons_succ,List.replicate]|refine gS ?_|refine sp ?_ ?_ <;> intro h|refine gL hn ?_|(with_reducible apply And.intro)|exact aG|fail)
  all_goals exact rtF [] fldList.eq_1
def rowG (l:List UInt8) (p:Int) (w:Nat) (k:Nat):Nat→List (List Int) × Nat
 |0=>([],k)
 |n+1=>((rowG l p w k n).1++[(elmG l p (rowG l p w k n).2 w).1],(elmG l p (rowG l p w k n).2 w).2)
theorem rowG_len {l:List UInt8} {p:Int} {w k:Nat}:∀ {n:Nat},(rowG l p w k n).1.length=n
 |0=>rfl
 |n+1=>by rw[rowG];simp [rowG_len]
theorem rowG_ok {l:List UInt8} {p:Int} {w k:Nat} (hp:1≤p):∀ {n:Nat},RowsOK p w (rowG l p w k n).1
 |0=>fun r h=>by cases h
 |n+1=>fun r h=>by
  rw[rowG] at h
  rcases List.mem_append.1 h with h|h
  ·exact rowG_ok hp r h
  ·simp only[List.mem_singleton] at h
   subst h
   exact⟨by rw[elmG_len];omega,elmG_all hp⟩
theorem drows (l:List UInt8) (hl:l.length≤140737488355328) (k:Nat) (p:Int) (hp:1≤p) (n w:Nat) (hn:n≤1000000) (hw:w≤1000000):Does Tryz.prog 71 [dcp,.ag [I p],I n,I w] (dc l k) (.d (dRows (rowG l p w k n).1)) (dc l (rowG l p w k n).2) []:=by
 refine wB Tryz.func71 BxOK.one fun cx hm0=>?_
 repeat' (first|refine gS ?_|refine sp ?_ ?_ <;> intro h|(with_reducible apply And.intro)|exact aG|fail)
 refine go_loop 5000 hm0 (ι:={q:Nat × Nat // q.1≤n}) (fun i=>[(0,.bp 900000 0 0),(2,I n),(3,I w),(5,.bp 5 0 0),(9,.og 24 i.1.2),(10,I i.1.1)]) (fun i=>[(5,.box 0 [I p]),(24,.arr i.1.2 1 true ((rowG l p w k i.1.1).1.map eR)),(900000,.box 0 [.d (dBytes l),I (rowG l p w k i.1.1).2])]) (fun i=>n-i.1.1) [24] ⟨(0,0),by simp⟩ ?_ ?_
 ·(simp only[GeS];refine⟨?_,?_,?_,?_⟩;all_goals (repeat' (first|(with_reducible exact True.intro)|(with_reducible rfl)|simp only[XC,↓reduceIte,seval]|(with_reducible apply And.intro)|(refine⟨_,rfl,?_⟩)|(simp [rowG];done)|exact aS|fail)))
 ·rintro⟨⟨j,v⟩,hj⟩
  simp only at hj
  have hlen:=rowG_len (l:=l) (p:=p) (k:=k) (w:=w) (n:=j)
  by_cases hjn:j<n
  ·have e1:=delements l hl (rowG l p w k j).2 p hp w (by omega)
   repeat' (first|refine gS ?_|refine sp ?_ ?_ <;> intro h|refine gL e1 ?_|(with_reducible apply And.intro)|exact aG|fail)
   refine⟨⟨(j+1,v+1),hjn⟩,?_,by simp only;omega⟩
   (simp only[GeS];refine⟨?_,?_,?_,?_⟩;all_goals (repeat' (first|(with_reducible exact True.intro)|(with_reducible rfl)|simp only[XC,↓reduceIte,seval]|(with_reducible apply And.intro)|(refine⟨_,rfl,?_⟩)|(simp [rowG,eR];done)|exact aS|fail)))
  ·have:j=n:=by omega
   subst this
   repeat' (first|refine gS ?_|refine sp ?_ ?_ <;> intro h|(with_reducible apply And.intro)|exact aG|fail)
   all_goals exact rt []
structure TabOK (t:PTab) (n:Nat):Prop where
 fld:fieldB t.p=true
 p2:7≤t.p
 p3:t.p≤257
 num:1≤t.num
 num2:t.num≤3+2*n
 w1:1≤t.width
 w2:t.width≤3
 rows:RowsOK t.p t.width t.rows
 len:t.rows.length≤5+n
 len1:1≤t.rows.length
theorem TabOK.check {t:PTab} {n:Nat} (h:TabOK t n) (hn:n≤100):checkT t=0:=by
 have h1:=h.num;have h2:=h.num2;have h3:=h.w1;have h4:=h.w2;have h5:=h.len
 rw[checkT,if_neg (by omega),if_neg (by simp [h.fld]),if_neg (by omega),if_neg (by omega)]
 exact (rowsErr_ok (by omega)).2 h.rows
theorem TabOK.short {t:PTab} {n:Nat} (h:TabOK t n):Short t.rows:=fun r hr=>by
 have:=(h.rows r hr).1;have:=h.w2;omega
theorem TabOK.mono {t:PTab} {n m:Nat} (h:TabOK t n) (hm:n≤m):TabOK t m :=
 ⟨h.fld,h.p2,h.p3,h.num,by have:=h.num2;omega,h.w1,h.w2,h.rows,by have:=h.len;omega,h.len1⟩
def tabG (l:List UInt8) (p:Int) (k:Nat):PTab × Nat :=
 let k1:=pickK l k
 let k2:=pickK l k1
 let R:=rowG l p (1+pickV l k 3).toNat (pickK l k2) (1+pickV l k2 5).toNat
 (⟨1+pickV l k1 3,p,1+pickV l k 3,R.1⟩,R.2)
theorem tabG_ok (l:List UInt8) (p:Int) (k:Nat) (hf:fieldB p=true) (h1:7≤p) (h2:p≤257):TabOK (tabG l p k).1 0:=by
 have a1:=pickV_in l k 3 (by omega)
 have a2:=pickV_in l (pickK l k) 3 (by omega)
 have a3:=pickV_in l (pickK l (pickK l k)) 5 (by omega)
 refine⟨hf,h1,h2,by simp only[tabG];omega,by simp only[tabG];omega,by simp only[tabG];omega,by simp only[tabG];omega,?_,by simp only[tabG,rowG_len];omega,by simp only[tabG,rowG_len];omega⟩
 have:=rowG_ok (l:=l) (p:=p) (w:=(1+pickV l k 3).toNat) (k:=pickK l (pickK l (pickK l k))) (by omega) (n:=(1+pickV l (pickK l (pickK l k)) 5).toNat)
 simp only[tabG]
 intro r hr
 have h:=this r hr
 exact⟨by rw[h.1];omega,h.2⟩
theorem dtable (l:List UInt8) (hl:l.length≤140737488355328) (k:Nat) (p:Int) (hp:1≤p):Does Tryz.prog 46 [dcp,.ag [I p]] (dc l k) (vTab (tabG l p k).1) (dc l (tabG l p k).2) []:=by
 refine wB Tryz.func46 BxOK.one fun cx hm0=>?_
 have a1:=pickV_in l k 3 (by omega)
 have a2:=pickV_in l (pickK l k) 3 (by omega)
 have a3:=pickV_in l (pickK l (pickK l k)) 5 (by omega)
 have d1:=pick l hl k 3 (by omega)
 have d2:=pick l hl (pickK l k) 3 (by omega)
 have d3:=pick l hl (pickK l (pickK l k)) 5 (by omega)
 simp only[tabG]
 generalize pickV l (pickK l (pickK l k)) 5=x3 at *
 generalize pickV l (pickK l k) 3=x2 at *
 generalize pickV l k 3=x1 at *
 obtain⟨n1,rfl⟩:=Int.eq_ofNat_of_zero_le a1.1
 obtain⟨n3,rfl⟩:=Int.eq_ofNat_of_zero_le a3.1
 have d4:=drows l hl (pickK l (pickK l (pickK l k))) p hp (1+n3) (1+n1) (by omega) (by omega)
 rw[show (1+(n1:Int)).toNat=1+n1 by omega,show (1+(n3:Int)).toNat=1+n3 by omega]
 rw[show ((1+n3:Nat):Int)=1+(n3:Int) by omega,show ((1+n1:Nat):Int)=1+(n1:Int) by omega] at d4
 repeat' (first|refine gS ?_|refine sp ?_ ?_ <;> intro h|refine gL d1 ?_|refine gL d2 ?_|refine gL d3 ?_|refine gL d4 ?_|(with_reducible apply And.intro)|exact aG|fail)
 all_goals exact rt []
def mixG (l:List UInt8) (p:Int) (w:Nat) (rows:List (List Int)) (k:Nat):Nat→List (List Int) × Nat
 |0=>([],k)
 |n+1 =>
  let s:=mixG l p w rows k n
  if pickV l s.2 3 > 0 then (s.1++[rows.getD n []],pickK l s.2) else (s.1++[(elmG l p (pickK l s.2) w).1],(elmG l p (pickK l s.2) w).2)
theorem mixG_len {l:List UInt8} {p:Int} {w k:Nat} {rows:List (List Int)}:∀ {n:Nat},(mixG l p w rows k n).1.length=n
 |0=>rfl
 |n+1=>by
  have:=mixG_len (l:=l) (p:=p) (w:=w) (k:=k) (rows:=rows) (n:=n)
  rw[mixG];split <;> simp [this]
theorem mixG_ok {l:List UInt8} {p:Int} {w:Int} {k:Nat} {rows:List (List Int)} (hp:1≤p) (h:RowsOK p w rows):∀ {n:Nat},n≤rows.length→RowsOK p w (mixG l p w.toNat rows k n).1
 |0,_=>fun r h=>by cases h
 |n+1,hn=>fun r hr=>by
  have ih:=mixG_ok (l:=l) (k:=k) hp h (n:=n) (by omega)
  rw[mixG] at hr
  split at hr
  ·rcases List.mem_append.1 hr with hr|hr
   ·exact ih r hr
   ·simp only[List.mem_singleton] at hr
    subst hr
    exact h _ (mem_getD _ _ _ (by omega))
  ·rcases List.mem_append.1 hr with hr|hr
   ·exact ih r hr
   ·simp only[List.mem_singleton] at hr
    subst hr
    exact⟨elmG_len,elmG_all hp⟩
def endG (l:List UInt8) (p:Int) (w:Nat) (s:List (List Int) × Nat):List (List Int) × Nat :=
 if pickV l s.2 4=0 then (s.1++[(elmG l p (pickK l s.2) w).1],(elmG l p (pickK l s.2) w).2)
 else if pickV l s.2 4=1 then (s.1.take (max 1 (s.1.length-1)),pickK l s.2) else (s.1,pickK l s.2)
theorem endG_ok {l:List UInt8} {p:Int} {w:Int} {s:List (List Int) × Nat} (hp:1≤p) (h:RowsOK p w s.1) (h1:1≤s.1.length):RowsOK p w (endG l p w.toNat s).1∧(endG l p w.toNat s).1.length≤s.1.length+1∧1≤(endG l p w.toNat s).1.length:=by
 unfold endG
 split
 ·refine⟨fun r hr=>?_,by simp⟩
  rcases List.mem_append.1 hr with hr|hr
  ·exact h r hr
  ·simp only[List.mem_singleton] at hr
   subst hr
   exact⟨elmG_len,elmG_all hp⟩
 ·split
  ·exact⟨fun r hr=>h r (List.mem_of_mem_take hr),by simp only[List.length_take];omega,by simp only[List.length_take];omega⟩
  ·exact⟨h,by simp only;omega,h1⟩
def laterG (l:List UInt8) (t:PTab) (k:Nat):PTab × Nat :=
 let s:=endG l t.p t.width.toNat (mixG l t.p t.width.toNat t.rows (pickK l k) t.rows.length)
 (⟨t.num+1+pickV l k 2,t.p,t.width,s.1⟩,s.2)
theorem laterG_ok (l:List UInt8) (k:Nat) {t:PTab} {n:Nat} (h:TabOK t n):TabOK (laterG l t k).1 (n+1):=by
 have a1:=pickV_in l k 2 (by omega)
 have hp:=h.p2
 have hm:=mixG_ok (l:=l) (k:=pickK l k) (by omega) h.rows (Nat.le_refl _)
 have hl:=mixG_len (l:=l) (p:=t.p) (w:=t.width.toNat) (k:=pickK l k) (rows:=t.rows) (n:=t.rows.length)
 have h1:=h.len1
 obtain⟨h2,h3,h4⟩:=endG_ok (l:=l) (by omega) hm (by rw[hl];exact h1)
 have:=h.num;have:=h.num2;have:=h.len
 exact⟨h.fld,h.p2,h.p3,by simp only[laterG];omega,by simp only[laterG];omega,h.w1,h.w2,h2,by simp only[laterG];omega,h4⟩
theorem laterG_num (l:List UInt8) (k:Nat) (t:PTab):t.num<(laterG l t k).1.num∧(laterG l t k).1.p=t.p∧(laterG l t k).1.width=t.width:=by
 have a2:=pickV_in l k 2 (by omega)
 exact⟨by simp only[laterG];omega,rfl,rfl⟩
noncomputable def chgG (l:List UInt8) (t:PTab) (k:Nat):PChg × Nat:=((betweenF t (laterG l t k).1).1,(laterG l t k).2)
theorem dchange (l:List UInt8) (hl:l.length≤140737488355328) (k:Nat) (t:PTab) {n:Nat} (h:TabOK t n) (hn:n≤50):Does Tryz.prog 57 [dcp,vTab t] (dc l k) (vChg (chgG l t k).1) (dc l (chgG l t k).2) []:=by
 refine wB Tryz.func57 BxOK.one fun cx hm0=>?_
 have hp:=h.p2;have hp3:=h.p3;have hw1:=h.w1;have hw2:=h.w2;have hlen:=h.len;have hnum:=h.num;have hnum2:=h.num2;have hlen1:=h.len1
 have hok:=laterG_ok l k h
 have hB:=r15between t (laterG l t k).1 (by omega) h.short (by have:=hok.len;omega) hok.short
 simp only[chgG]
 have a1:=pickV_in l k 2 (by omega)
 have d1:=pick l hl k 2 (by omega)
 have hX:(laterG l t k)=(⟨t.num+1+pickV l k 2,t.p,t.width,(endG l t.p t.width.toNat (mixG l t.p t.width.toNat t.rows (pickK l k) t.rows.length)).1⟩,(endG l t.p t.width.toNat (mixG l t.p t.width.toNat t.rows (pickK l k) t.rows.length)).2):=rfl
 rw[hX] at hB ⊢
 simp only at hB ⊢
 generalize (betweenF t ⟨t.num+1+pickV l k 2,t.p,t.width,(endG l t.p t.width.toNat (mixG l t.p t.width.toNat t.rows (pickK l k) t.rows.length)).1⟩)=c at hB ⊢
 obtain⟨w,hw⟩:∃ w:Nat,t.width=(w:Int):=⟨t.width.toNat,by omega⟩
 obtain⟨num,p,width,rows⟩:=t
 simp only at hw
 subst hw
 simp only[Int.toNat_natCast] at *
 clear hok hX h
 have w1:IntKind.i64.wrap (num+1)=num+1:=IntWalk.i64_in _ (by omega)
 have w2:IntKind.i64.wrap (num+1+pickV l k 2)=num+1+pickV l k 2:=IntWalk.i64_in _ (by omega)
 generalize pickV l k 2=x at *
 generalize pickK l k=k1 at *
 repeat' (first|refine gB w1 w2 ?_|refine sp ?_ ?_ <;> intro h|refine gL d1 ?_|(with_reducible apply And.intro)|exact aG|fail)
 refine go_loop 5000 hm0 (ι:={q:Nat × Nat // q.1≤rows.length}) (fun i=>[(0,.bp 900000 0 0),(3,.bp 3 0 0),(4,.bp 4 0 0),(5,.bp 5 0 0),(6,I i.1.1)]) (fun i=>[(3,.box 0 [I num,I p,I w,.d (dRows rows)]),(4,.box 0 [I 0,I 0,I 0,.nl 2]),(5,.box 0 [I (num+1+x),I p,I w,.og 24 i.1.2]),(24,.arr i.1.2 1 true ((mixG l p w rows k1 i.1.1).1.map eR)),(900000,.box 0 [.d (dBytes l),I (mixG l p w rows k1 i.1.1).2])]) (fun i=>rows.length-i.1.1) [24] ⟨(0,0),by simp⟩ ?_ ?_
 ·(simp only[GeS];refine⟨?_,?_,?_,?_⟩;all_goals (repeat' (first|(with_reducible exact True.intro)|(with_reducible rfl)|simp only[XC,↓reduceIte,seval]|(with_reducible apply And.intro)|(refine⟨_,rfl,?_⟩)|(simp [mixG];done)|exact aS|fail)))
 ·rintro⟨⟨j,v⟩,hj⟩
  simp only at hj
  have hml:=mixG_len (l:=l) (p:=p) (k:=k1) (w:=w) (rows:=rows) (n:=j)
  by_cases hjn:j<rows.length
  ·have e0:=pick l hl (mixG l p w rows k1 j).2 3 (by omega)
   have hs:=getD_map eR [] [] rows j hjn
   by_cases hpos:pickV l (mixG l p w rows k1 j).2 3 > 0
   ·have q:decide (pickV l (mixG l p w rows k1 j).2 3 > 0)=true:=decide_eq_true hpos
    have hN:mixG l p w rows k1 (j+1)=((mixG l p w rows k1 j).1++[rows.getD j []],pickK l (mixG l p w rows k1 j).2):=by rw[mixG];rw[if_pos hpos]
    repeat' (first|refine gC q hs eR.eq_1 ?_|refine sp ?_ ?_ <;> intro h|refine gL e0 ?_|(with_reducible apply And.intro)|exact aG|fail)
    refine⟨⟨(j+1,v+1),hjn⟩,?_,by simp only;omega⟩
    exact aY (And.intro hN eR.eq_1)
   ·have q:decide (pickV l (mixG l p w rows k1 j).2 3 > 0)=false:=decide_eq_false hpos
    have hN:mixG l p w rows k1 (j+1)=((mixG l p w rows k1 j).1++[(elmG l p (pickK l (mixG l p w rows k1 j).2) w).1],(elmG l p (pickK l (mixG l p w rows k1 j).2) w).2):=by rw[mixG];rw[if_neg hpos]
    have e1:=delements l hl (pickK l (mixG l p w rows k1 j).2) p (by omega) w (by omega)
    repeat' (first|refine gC q hs eR.eq_1 ?_|refine sp ?_ ?_ <;> intro h|refine gL e0 ?_|refine gL e1 ?_|(with_reducible apply And.intro)|exact aG|fail)
    refine⟨⟨(j+1,v+1),hjn⟩,?_,by simp only;omega⟩
    exact aY (And.intro hN eR.eq_1)
  ·have:j=rows.length:=by omega
   subst this
   have e0:=pick l hl (mixG l p w rows k1 rows.length).2 4 (by omega)
   have b0:=pickV_in l (mixG l p w rows k1 rows.length).2 4 (by omega)
   by_cases h0:pickV l (mixG l p w rows k1 rows.length).2 4=0
   ·have hN:endG l p w (mixG l p w rows k1 rows.length)=((mixG l p w rows k1 rows.length).1++[(elmG l p (pickK l (mixG l p w rows k1 rows.length).2) w).1],(elmG l p (pickK l (mixG l p w rows k1 rows.length).2) w).2):=by rw[endG,if_pos h0]
    have e1:=delements l hl (pickK l (mixG l p w rows k1 rows.length).2) p (by omega) w (by omega)
    rw[hN] at hB ⊢
    generalize mixG l p w rows k1 rows.length=s at *
    rw[h0] at e0
    simp only[vTab,dRows,List.map_append,List.map_cons,List.map_nil,eR] at hB
    repeat' (first|refine gA eR.eq_1 ?_|refine sp ?_ ?_ <;> intro h|refine gL e0 ?_|refine gL e1 ?_|refine gN hB ?_|(with_reducible apply And.intro)|exact aG|fail)
    all_goals exact rt []
   ·have q0:(pickV l (mixG l p w rows k1 rows.length).2 4 == 0)=false:=by rw[beq_eq_false_iff_ne];exact h0
    by_cases h1:pickV l (mixG l p w rows k1 rows.length).2 4=1
    ·have hN:endG l p w (mixG l p w rows k1 rows.length)=((mixG l p w rows k1 rows.length).1.take (max 1 ((mixG l p w rows k1 rows.length).1.length-1)),pickK l (mixG l p w rows k1 rows.length).2):=by rw[endG,if_neg h0,if_pos h1]
     rw[hN] at hB ⊢
     generalize mixG l p w rows k1 rows.length=s at *
     rw[h1] at e0
     simp only[vTab,dRows,List.map_take,hml] at hB
     rw[hml]
     have q3:max (1:Int) ((rows.length:Int)-1)=((max 1 (rows.length-1):Nat):Int):=by omega
     have w5:IntKind.i64.wrap ((rows.length:Int)-1)=(rows.length:Int)-1:=IntWalk.i64_in _ (by omega)
     repeat' (first|refine gC w5 q3 hml ?_|refine sp ?_ ?_ <;> intro h|refine gL e0 ?_|refine gN hB ?_|(with_reducible apply And.intro)|exact aG|fail)
     all_goals exact rt []
    ·have q1:(pickV l (mixG l p w rows k1 rows.length).2 4 == 1)=false:=by rw[beq_eq_false_iff_ne];exact h1
     have hN:endG l p w (mixG l p w rows k1 rows.length)=((mixG l p w rows k1 rows.length).1,pickK l (mixG l p w rows k1 rows.length).2):=by rw[endG,if_neg h0,if_neg h1]
     rw[hN] at hB ⊢
     generalize mixG l p w rows k1 rows.length=s at *
     repeat' (first|refine gB q0 q1 ?_|refine sp ?_ ?_ <;> intro h|refine gL e0 ?_|refine gN hB ?_|(with_reducible apply And.intro)|exact aG|fail)
     all_goals exact rt []
end Go.Proofs.YticdbambknflgaaGreat.Sim
end
section
namespace Go.Proofs.YticdbambknflgaaGreat.Sim
open Go
set_option maxRecDepth 100000
set_option maxHeartbeats 4000000
set_option linter.unusedVariables false
set_option linter.unusedSimpArgs false
attribute [local irreducible] Go Mean
theorem diffGo_find (ra:List (List Int)):∀ (l:List (List Int)) (k i:Nat),k≤i→i<k+l.length→findF i (diffGo ra k l)=if i ≥ ra.length∨l.getD (i-k) [] ≠ ra.getD i [] then some (l.getD (i-k) []) else none
 |[],k,i,h1,h2=>by simp at h2;omega
 |r :: l,k,i,h1,h2=>by
  rw[diffGo]
  by_cases e:i=k
  ·subst e
   rw[Nat.sub_self,List.getD_cons_zero]
   split
   ·rw[findF,if_pos rfl]
   ·refine findF_none fun s hs=>?_
    have key:∀ (l:List (List Int)) (k:Nat),∀ s ∈ diffGo ra k l,(k:Int)≤s.idx:=by
     intro l
     induction l with
     |nil=>intro k s hs;cases hs
     |cons r l ih =>
      intro k s hs
      rw[diffGo] at hs
      split at hs
      ·rcases List.mem_cons.1 hs with rfl|hs
       ·exact Int.le_refl _
       ·have:=ih (k+1) s hs;omega
      ·have:=ih (k+1) s hs;omega
    have:=key l (i+1) s hs
    omega
  ·have e2:i-k=(i-(k+1))+1:=by omega
   rw[e2,List.getD_cons_succ]
   have ih:=diffGo_find ra l (k+1) i (by omega) (by simp only[List.length_cons] at h2;omega)
   split
   ·rw[findF,if_neg (by simp only;omega)];exact ih
   ·exact ih
theorem diffGo_form (ra:List (List Int)) {count:Int}:∀ (l:List (List Int)) (k:Nat) (last:Int),last<k→k+l.length≤count→formGo count last (diffGo ra k l)=true
 |[],k,last,_,_=>rfl
 |r :: l,k,last,h1,h2=>by
  simp only[List.length_cons] at h2
  rw[diffGo]
  split
  ·exact formGo_cons.2 ⟨h1,by simp only;omega,diffGo_form ra l (k+1) k (by omega) (by omega)⟩
  ·exact diffGo_form ra l (k+1) last (by omega) (by omega)
theorem diffGo_mem (ra:List (List Int)):∀ (l:List (List Int)) (k:Nat),∀ s ∈ diffGo ra k l,s.row ∈ l
 |[],k,s,hs=>by cases hs
 |r :: l,k,s,hs=>by
  rw[diffGo] at hs
  split at hs
  ·rcases List.mem_cons.1 hs with rfl|hs
   ·exact List.mem_cons_self
   ·exact List.mem_cons_of_mem _ (diffGo_mem ra l (k+1) s hs)
  ·exact List.mem_cons_of_mem _ (diffGo_mem ra l (k+1) s hs)
theorem setsErr_ok {p w:Int} (hw:0≤w):∀ {l:List PSet},setsErr p w l=0↔∀ s ∈ l,s.row.length=w.toNat∧s.row.all (inE p)=true
 |[]=>by simp [setsErr]
 |s :: l=>by
  have ih:=setsErr_ok (p:=p) hw (l:=l)
  simp only[List.mem_cons,forall_eq_or_imp] at ih ⊢
  rw[setsErr]
  split
  ·rename_i h;simp;omega
  ·rename_i h
   split
   ·rename_i h2
    rw[ih]
    exact⟨fun g=>⟨⟨by omega,h2⟩,g⟩,fun g=>g.2⟩
   ·rename_i h2
    exact⟨fun g=>by simp at g,fun g=>absurd g.1.2 h2⟩
structure Leads (x:PTab) (c:PChg) (y:PTab):Prop where
 form:formF c=true
 fr:c.fr=x.num
 tt:c.tt=y.num
 count:c.count=y.rows.length
 rows:∀ s ∈ c.sets,s.row.length=x.width.toNat∧s.row.all (inE x.p)=true
 find:∀ i:Nat,i<y.rows.length→findF i c.sets=some (y.rows.getD i [])∨(findF i c.sets=none∧i<x.rows.length∧x.rows.getD i []=y.rows.getD i [])
theorem Leads.apply {x y:PTab} {c:PChg} (h:Leads x c y) (hx:checkT x=0) (hp:y.p=x.p) (hw:y.width=x.width):checkC x c=0∧applyF x c=(y,0):=by
 obtain⟨_,hl,hn1,hn2,hw1,hw2,hr⟩:=checkT_ok hx
 obtain⟨f1,f2,f3,f4,f5,f6⟩:=formF_ok h.form
 have hc:checkC x c=0:=by
  have h1:=(setsErr_ok (p:=x.p) (by omega:0≤x.width)).2 h.rows
  have h2:=(behind_all (x:=(x.rows.length:Int)) f6).2 fun i h1 h2=>by
   obtain⟨j,rfl⟩:=Int.eq_ofNat_of_zero_le (show 0≤i by omega)
   have:=h.count
   rcases h.find j (by omega) with h3|⟨_,h4,_⟩
   ·rw[h3];rfl
   ·omega
  rw[checkC,if_neg (by simp [hx]),if_neg (by simp [h.form]),if_neg (by simp [h.fr]),if_neg (by simp [h1]),if_neg (by simpa using h2)]
 refine⟨hc,?_⟩
 rw[applyF,if_neg (by simp [hc])]
 have hr:applyRows x.rows c=y.rows:=by
  apply (eq_getD _ _ (by rw[applyRows_len,h.count,Int.toNat_natCast])).2
  intro k hk
  rw[applyRows_len,h.count,Int.toNat_natCast] at hk
  rw[applyRows_get (by rw[h.count,Int.toNat_natCast];exact hk)]
  rcases h.find k hk with h3|⟨h3,_,h4⟩
  ·rw[h3];rfl
  ·rw[h3];exact h4
 rw[hr,h.tt,← hp,← hw]
theorem between_leads {a b:PTab} (ha:checkT a=0) (hb:checkT b=0) (hp:a.p=b.p) (hw:a.width=b.width) (hn:a.num<b.num):betweenF a b=(⟨a.num,b.num,b.rows.length,diffGo a.rows 0 b.rows⟩,0)∧Leads a ⟨a.num,b.num,b.rows.length,diffGo a.rows 0 b.rows⟩ b:=by
 obtain⟨_,hl,hn1,hn2,hw1,hw2,hr⟩:=checkT_ok ha
 obtain⟨_,hbl,hm1,hm2,hv1,hv2,hbr⟩:=checkT_ok hb
 have hro:=(rowsErr_ok (p:=b.p) (by omega:0≤b.width)).1 hbr
 refine⟨by rw[betweenF,if_neg (by simp [ha]),if_neg (by simp [hb]),if_neg (by simp [hp,hw]),if_neg (by omega)],⟨?_,rfl,rfl,rfl,fun s hs=>?_,fun i hi=>?_⟩⟩
 ·have hg:=diffGo_form a.rows (count:=(b.rows.length:Int)) b.rows 0 (-1) (by omega) (by omega)
  simp only[formF,numF,hg,Bool.and_true,Bool.and_eq_true,decide_eq_true_eq]
  omega
 ·have:=hro _ (diffGo_mem _ _ _ s hs)
  rw[hp,hw]
  exact this
 ·have:=diffGo_find a.rows b.rows 0 i (by omega) (by omega)
  simp only[Nat.sub_zero] at this
  by_cases h:i ≥ a.rows.length∨b.rows.getD i [] ≠ a.rows.getD i []
  ·rw[if_pos h] at this;exact .inl this
  ·rw[if_neg h] at this
   refine .inr ⟨this,by omega,?_⟩
   apply Classical.byContradiction
   intro h2
   exact h (.inr fun e=>h2 e.symm)
def eTab (t:PTab):List D:=[.at (.int .i64 t.num),.at (.int .i64 t.p),.at (.int .i64 t.width),dRows t.rows]
abbrev dTabs (l:List PTab):D:=.sl 4 (l.map eTab)
abbrev vPub (l:List PTab):V:=.ag [.d (dTabs l)]
def okT (t:PTab):Prop:=t.rows.length≤1000000∧Short t.rows
def OkTs (l:List PTab):Prop:=l.length≤1000∧∀ t ∈ l,okT t
theorem OkTs.get {l:List PTab} (h:OkTs l) {k:Nat} (hk:k<l.length):okT (l.getD k noTab):=h.2 _ (mem_getD _ _ _ hk)
noncomputable def newP (t:PTab):List PTab × Int:=if checkT t ≠ 0 then ([],checkT t) else ([t],0)
theorem r37new (t:PTab) (h:okT t):Does Tryz.prog 77 [vTab t] [] (.tu [vPub (newP t).1,I (newP t).2]) [] []:=by
 refine wD Tryz.func77 fun cx hm0=>?_
 have h1:=h.1
 have e1:=r14check t (by omega) h.2
 unfold newP
 by_cases hc:checkT t=0
 ·rw[if_neg (by simp [hc])]
  rw[hc] at e1
  repeat' (first|refine gA eTab.eq_1 ?_|refine sp ?_ ?_ <;> intro h|refine gP e1 ?_|(with_reducible apply And.intro)|exact aG|fail)
  all_goals exact rtF [] eTab.eq_1
 ·rw[if_pos hc]
  have q:(checkT t != 0)=true:=by simp [hc]
  generalize checkT t=e at *
  repeat' (first|refine gA q ?_|refine sp ?_ ?_ <;> intro h|refine gP e1 ?_|(with_reducible apply And.intro)|exact aG|fail)
  all_goals exact rt []
def okAt (l:List PTab) (k:Nat):Prop:=checkT (l.getD k noTab)=0∧(l.getD k noTab).p=(l.getD 0 noTab).p∧(l.getD k noTab).width=(l.getD 0 noTab).width∧(0<k→(l.getD (k-1) noTab).num<(l.getD k noTab).num)
def validP (l:List PTab):Prop:=1≤l.length∧l.length≤16∧∀ k,k<l.length→okAt l k
noncomputable def validB (l:List PTab):Bool:=@decide (validP l) (Classical.propDecidable _)
theorem validB_yes {l:List PTab} (h:validP l):validB l=true:=@decide_eq_true _ (Classical.propDecidable _) h
theorem validB_no {l:List PTab} (h:¬validP l):validB l=false:=@decide_eq_false _ (Classical.propDecidable _) h
theorem validB_iff {l:List PTab}:validB l=true↔validP l:=@decide_eq_true_iff _ (Classical.propDecidable _)
theorem r37valid (l:List PTab) (h:OkTs l):Does Tryz.prog 87 [vPub l] [] (B (validB l)) [] []:=by
 refine wD Tryz.func87 fun cx hm0=>?_
 have hl:=h.1
 repeat' (first|refine gS ?_|refine sp ?_ ?_ <;> intro h|(with_reducible apply And.intro)|exact aG|fail)
 refine go_loop 5000 hm0 (ι:={k:Nat // k≤l.length∧∀ j,j<k→okAt l j}) (fun i=>[(1,.bp 1 0 0),(3,I i.1)]) (fun i=>[(1,.box 0 [.d (dTabs l)])]) (fun i=>l.length-i.1) [] ⟨0,Nat.zero_le _,fun j hj=>by omega⟩ ?_ ?_
 ·exact aH
 ·rintro⟨k,hk,hv⟩
  simp only
  by_cases hkl:k<l.length
  ·have hs1:=getD_map eTab [] noTab l k hkl
   have hs0:=getD_map eTab [] noTab l 0 (by omega)
   have hsp:=getD_map eTab [] noTab l (k-1) (by omega)
   have hok:=h.get hkl
   have hbad:¬okAt l k→validB l=false:=fun hn=>validB_no fun g=>hn (g.2.2 k hkl)
   have hgood:okAt l k→∀ j,j<k+1→okAt l j:=fun hg j hj=>by
    by_cases e:j=k
    ·subst e;exact hg
    ·exact hv j (by omega)
   unfold okAt at hbad
   rw[okAt] at hgood
   have hl0:0<l.length:=by omega
   have w:0<k→IntKind.i64.wrap ((k:Int)-1)=((k-1:Nat):Int):=fun h=>by rw[show (k:Int)-1=((k-1:Nat):Int) by omega];exact IntWalk.i64_in _ (by omega)
   have hk1:k-1<l.length:=by omega
   have e1:=r14check (l.getD k noTab) (by have:=hok.1;omega) hok.2
   generalize l.getD k noTab=t at *
   generalize l.getD 0 noTab=t0 at *
   generalize l.getD (k-1) noTab=tp at *
   by_cases g1:checkT t=0
   ·rw[g1] at e1
    by_cases g2:t.p=t0.p
    ·have p2:(t.p == t0.p)=true:=by simp [g2]
     by_cases g3:t.width=t0.width
     ·have p3:(t.width != t0.width)=false:=by simp [g3]
      by_cases g4:0<k
      ·have p4:decide ((k:Int) > 0)=true:=decide_eq_true (by omega)
       have w':=w g4
       by_cases g5:t.num≤tp.num
       ·have p5:decide (tp.num ≥ t.num)=true:=decide_eq_true g5
        rw[hbad fun g=>by have:=g.2.2.2 g4;omega]
        repeat' (first|simp (maxSteps:=9999999) only[↓GE,PQ,seval,hs1,hs0,hsp,hkl,hl0,hk1,w',p2,p3,p4,p5,eTab]|refine gS ?_|refine sp ?_ ?_ <;> intro h|refine gP e1 ?_|(with_reducible apply And.intro)|exact aG|fail)
        all_goals exact rt []
       ·have p5:decide (tp.num ≥ t.num)=false:=decide_eq_false g5
        repeat' (first|simp (maxSteps:=9999999) only[↓GE,PQ,seval,hs1,hs0,hsp,hkl,hl0,hk1,w',p2,p3,p4,p5,eTab]|refine gS ?_|refine sp ?_ ?_ <;> intro h|refine gP e1 ?_|(with_reducible apply And.intro)|exact aG|fail)
        refine⟨⟨k+1,hkl,hgood ⟨g1,g2,g3,fun _=>by omega⟩⟩,?_,by simp only;omega⟩
        exact aH
      ·have p4:decide ((k:Int) > 0)=false:=decide_eq_false (by omega)
       repeat' (first|simp (maxSteps:=9999999) only[↓GE,PQ,seval,hs1,hs0,hkl,hl0,p2,p3,p4,eTab]|refine gS ?_|refine sp ?_ ?_ <;> intro h|refine gP e1 ?_|(with_reducible apply And.intro)|exact aG|fail)
       refine⟨⟨k+1,hkl,hgood ⟨g1,g2,g3,fun h=>absurd h g4⟩⟩,?_,by simp only;omega⟩
       exact aH
     ·have p3:(t.width != t0.width)=true:=by simp [g3]
      rw[hbad fun g=>g3 g.2.2.1]
      repeat' (first|simp (maxSteps:=9999999) only[↓GE,PQ,seval,hs1,hs0,hkl,hl0,p2,p3,eTab]|refine gS ?_|refine sp ?_ ?_ <;> intro h|refine gP e1 ?_|(with_reducible apply And.intro)|exact aG|fail)
      all_goals exact rt []
    ·have p2:(t.p == t0.p)=false:=by simp [g2]
     rw[hbad fun g=>g2 g.2.1]
     repeat' (first|simp (maxSteps:=9999999) only[↓GE,PQ,seval,hs1,hs0,hkl,hl0,p2,eTab]|refine gS ?_|refine sp ?_ ?_ <;> intro h|refine gP e1 ?_|(with_reducible apply And.intro)|exact aG|fail)
     all_goals exact rt []
   ·have p1:(checkT t != 0)=true:=by simp [g1]
    rw[hbad fun g=>g1 g.1]
    generalize checkT t=e at *
    repeat' (first|refine gQ hs1 hkl p1 eTab.eq_1 ?_|refine sp ?_ ?_ <;> intro h|refine gP e1 ?_|(with_reducible apply And.intro)|exact aG|fail)
    all_goals exact rt []
  ·obtain rfl:k=l.length:=by omega
   by_cases h1:1≤l.length
   ·have q1:decide ((l.length:Int) ≥ 1)=true:=decide_eq_true (by omega)
    by_cases h2:l.length≤16
    ·have q2:decide ((l.length:Int)≤16)=true:=decide_eq_true (by omega)
     rw[validB_yes ⟨h1,h2,hv⟩]
     repeat' (first|refine gB q1 q2 ?_|refine sp ?_ ?_ <;> intro h|(with_reducible apply And.intro)|exact aG|fail)
     all_goals exact rt []
    ·have q2:decide ((l.length:Int)≤16)=false:=decide_eq_false (by omega)
     rw[validB_no fun g=>h2 g.2.1]
     repeat' (first|refine gB q1 q2 ?_|refine sp ?_ ?_ <;> intro h|(with_reducible apply And.intro)|exact aG|fail)
     all_goals exact rt []
   ·have q1:decide ((l.length:Int) ≥ 1)=false:=decide_eq_false (by omega)
    rw[validB_no fun g=>h1 g.1]
    repeat' (first|refine gA q1 ?_|refine sp ?_ ?_ <;> intro h|(with_reducible apply And.intro)|exact aG|fail)
    all_goals exact rt []
theorem applyF_zero {t:PTab} {c:PChg} (h:checkC t c=0):applyF t c=((applyF t c).1,0):=by
 rw[applyF,if_neg (by simp [h])]
theorem okT_check {t:PTab} (h:checkT t=0):okT t:=by
 obtain⟨a1,a2,a3,a4,a5,a6,a7⟩:=checkT_ok h
 have hrows:=(rowsErr_ok (p:=t.p) (by omega:0≤t.width)).1 a7
 exact⟨by omega,fun r hr=>by have:=(hrows r hr).1;omega⟩
def lastT (l:List PTab):PTab:=l.getD (l.length-1) noTab
theorem validP.last {l:List PTab} (h:validP l):checkT (lastT l)=0:=(h.2.2 _ (by have:=h.1;omega)).1
theorem OkTs.last {l:List PTab} (h:OkTs l) (h1:1≤l.length):okT (lastT l):=h.get (by omega)
noncomputable def pubF (l:List PTab) (c:PChg):List PTab × Int:=if validB l=false then (l,2) else if checkC (lastT l) c ≠ 0 then (l,checkC (lastT l) c) else if l.length ≥ 16 then (l,4) else (l++[(applyF (lastT l) c).1],0)
noncomputable def newestF (l:List PTab):PTab × Int:=if validB l=false then (noTab,2) else (lastT l,0)
def findT (n:Int):List PTab→Option PTab
 |[]=>none
 |t :: l=>if t.num=n then some t else findT n l
theorem findT_hit {n:Int}:∀ {l:List PTab} {k:Nat},k<l.length→(∀ j,j<k→(l.getD j noTab).num ≠ n)→(l.getD k noTab).num=n→findT n l=some (l.getD k noTab)
 |t :: l,0,_,_,h=>by rw[findT,if_pos (show t.num=n from h)];rfl
 |t :: l,k+1,hk,hj,h=>by
  have h0:t.num ≠ n:=hj 0 (by omega)
  rw[findT,if_neg h0]
  exact findT_hit (l:=l) (k:=k) (by simpa using hk) (fun j hjk=>hj (j+1) (by omega)) h
theorem findT_none {n:Int}:∀ {l:List PTab},(∀ j,j<l.length→(l.getD j noTab).num ≠ n)→findT n l=none
 |[],_=>rfl
 |t :: l,h=>by
  have h0:t.num ≠ n:=h 0 (by simp)
  rw[findT,if_neg h0]
  exact findT_none fun j hj=>h (j+1) (by simpa using hj)
noncomputable def findP (l:List PTab) (n:Int):PTab × Int:=if validB l=false then (noTab,2) else match findT n l with
 |some t=>(t,0)
 |none=>(noTab,6)
def delB (L:Nat) (vs:List Int) (n:Nat) (t:PTab):Bool:=decide (n+1<L)&&!decide (t.num ∈ vs)
def keepN (l:List PTab) (vs:List Int):Nat→List PTab
 |0=>[]
 |n+1=>if delB l.length vs n (l.getD n noTab)=true then keepN l vs n else keepN l vs n++[l.getD n noTab]
theorem keepN_len {l:List PTab} {vs:List Int}:∀ {n:Nat},(keepN l vs n).length≤n
 |0=>Nat.le_refl _
 |n+1=>by
  have:=keepN_len (l:=l) (vs:=vs) (n:=n)
  rw[keepN];split <;> simp <;> omega
def keepF (l:List PTab) (vs:List Int):List PTab:=keepN l vs l.length
theorem r37keep (l:List PTab) (vs:List Int) (h:OkTs l) (hv:vs.length≤1000000):Does Tryz.prog 111 [vPub l,.d (dInts vs)] [] (vPub (keepF l vs)) [] []:=by
 refine wD Tryz.func111 fun cx hm0=>?_
 have hl:=h.1
 repeat' (first|refine gS ?_|refine sp ?_ ?_ <;> intro h|(with_reducible apply And.intro)|exact aG|fail)
 refine go_loop 5000 hm0 (ι:={q:Nat × Nat // q.1≤l.length}) (fun i=>[(1,.d (dInts vs)),(2,.bp 2 0 0),(4,.bp 4 0 0),(5,.og 50 i.1.2),(6,I i.1.1)]) (fun i=>[(2,.box 0 [.d (dTabs l)]),(4,.box 0 [.nl 4]),(50,.arr i.1.2 4 true ((keepN l vs i.1.1).map eTab))]) (fun i=>l.length-i.1.1) [50] ⟨(0,0),Nat.zero_le _⟩ ?_ ?_
 ·(simp only[GeS];refine⟨?_,?_,?_,?_⟩;all_goals (repeat' (first|(with_reducible exact True.intro)|(with_reducible rfl)|simp only[XC,↓reduceIte,seval]|(with_reducible apply And.intro)|(refine⟨_,rfl,?_⟩)|(simp [keepN];done)|exact aS|fail)))
 ·rintro⟨⟨k,v⟩,hk⟩
  simp only at hk
  by_cases hkl:k<l.length
  ·have hs1:=getD_map eTab [] noTab l k hkl
   have hN:keepN l vs (k+1)=if delB l.length vs k (l.getD k noTab)=true then keepN l vs k else keepN l vs k++[l.getD k noTab]:=rfl
   have hKl:=keepN_len (l:=l) (vs:=vs) (n:=k)
   unfold delB at hN
   generalize l.getD k noTab=t at hs1 hN
   have w:IntKind.i64.wrap ((k:Int)+1)=(k:Int)+1:=IntWalk.i64_in _ (by omega)
   have hb:((k:Int)+1 == (l.length:Int))=!decide (k+1<l.length):=by
    by_cases g:k+1<l.length
    ·rw[decide_eq_true g];simp;omega
    ·rw[decide_eq_false g];simp;omega
   repeat' (first|refine gA w ?_|refine sp ?_ ?_ <;> intro h|(with_reducible apply And.intro)|exact aG|fail)
   refine go_loop 5000 hm0 (ι:={j:Nat // j≤vs.length}) (fun i=>[(1,.d (dInts vs)),(2,.bp 2 0 0),(4,.bp 4 0 0),(5,.og 50 v),(6,I k),(7,B (!decide (k+1<l.length)||decide (t.num ∈ vs.take i.1))),(8,I i.1)]) (fun i=>[(2,.box 0 [.d (dTabs l)]),(4,.box 0 [.nl 4]),(50,.arr v 4 true ((keepN l vs k).map eTab))]) (fun i=>vs.length-i.1) [] ⟨0,Nat.zero_le _⟩ ?_ ?_
   ·exact aY hb
   ·rintro⟨j,hj⟩
    simp only
    by_cases hjv:j<vs.length
    ·have hs2:=getD_map eI [] 0 vs j hjv
     have ht:=take_succ_getD 0 vs j hjv
     have hB:(!decide (k+1<l.length)||decide (t.num ∈ vs.take (j+1)))=((!decide (k+1<l.length)||decide (t.num ∈ vs.take j))||(vs.getD j 0 == t.num)):=by
      rw[ht]
      generalize vs.getD j 0=y
      have hm:decide (t.num ∈ vs.take j++[y])=(decide (t.num ∈ vs.take j)||(y == t.num)):=by
       by_cases g:y=t.num
       ·rw[g];simp
       ·have g':¬t.num=y:=fun e=>g e.symm
        rw[beq_eq_false_iff_ne.2 g]
        simp [g']
      rw[hm,Bool.or_assoc]
     generalize vs.getD j 0=y at *
     generalize hc:(!decide (k+1<l.length)||decide (t.num ∈ vs.take j))=c at *
     cases c with
     |true =>
      rw[Bool.true_or] at hB
      repeat' (first|refine gC hs2 hjv eI.eq_1 ?_|refine sp ?_ ?_ <;> intro h|(with_reducible apply And.intro)|exact aG|fail)
      refine⟨⟨j+1,hjv⟩,?_,by simp only;omega⟩
      exact aY hB
     |false =>
      rw[Bool.false_or] at hB
      repeat' (first|simp (maxSteps:=9999999) only[↓GE,PQ,seval,hs1,hs2,hjv,hkl,eI,eTab]|refine gS ?_|refine sp ?_ ?_ <;> intro h|(with_reducible apply And.intro)|exact aG|fail)
      refine⟨⟨j+1,hjv⟩,?_,by simp only;omega⟩
      exact aY hB
    ·obtain rfl:j=vs.length:=by omega
     rw[List.take_length]
     cases hc:(!decide (k+1<l.length)||decide (t.num ∈ vs)) with
     |true =>
      rw[if_neg (by cases g1:decide (k+1<l.length) <;> cases g2:decide (t.num ∈ vs) <;> simp_all)] at hN
      repeat' (first|refine gC hs1 hkl eTab.eq_1 ?_|refine sp ?_ ?_ <;> intro h|(with_reducible apply And.intro)|exact aG|fail)
      refine⟨⟨(k+1,v+1),hkl⟩,?_,by simp only;omega⟩
      exact aY (And.intro hN eTab.eq_1)
     |false =>
      rw[if_pos (by cases g1:decide (k+1<l.length) <;> cases g2:decide (t.num ∈ vs) <;> simp_all)] at hN
      repeat' (first|refine gS ?_|refine sp ?_ ?_ <;> intro h|(with_reducible apply And.intro)|exact aG|fail)
      refine⟨⟨(k+1,v),hkl⟩,?_,by simp only;omega⟩
      exact aY hN
  ·obtain rfl:k=l.length:=by omega
   repeat' (first|refine gS ?_|refine sp ?_ ?_ <;> intro h|(with_reducible apply And.intro)|exact aG|fail)
   all_goals exact rtF [] keepF.eq_1
theorem r37publish (l:List PTab) (c:PChg) (h:OkTs l) (hc:c.sets.length≤1000000) (hd:ShortS c.sets):Does Tryz.prog 101 [vPub l,vChg c] [] (.tu [vPub (pubF l c).1,I (pubF l c).2]) [] []:=by
 refine wD Tryz.func101 fun cx hm0=>?_
 have hl:=h.1
 have e1:=r37valid l h
 unfold pubF
 cases hv:validB l with
 |false =>
  rw[if_pos rfl]
  rw[hv] at e1
  repeat' (first|refine gS ?_|refine sp ?_ ?_ <;> intro h|refine gP e1 ?_|(with_reducible apply And.intro)|exact aG|fail)
  all_goals exact rt []
 |true =>
 rw[hv] at e1
 rw[if_neg (by simp)]
 have hV:=validB_iff.1 hv
 have hV1:=hV.1
 have hok:=h.last hV.1
 have h1:=hok.1
 have e3:=r15apply (lastT l) c (by omega) hok.2 (by omega) hd
 have hs:=getD_map eTab [] noTab l (l.length-1) (by omega)
 have hlt:l.length-1<l.length:=by omega
 have w:IntKind.i64.wrap ((l.length:Int)-1)=((l.length-1:Nat):Int):=by rw[show (l.length:Int)-1=((l.length-1:Nat):Int) by omega];exact IntWalk.i64_in _ (by omega)
 unfold lastT at *
 generalize l.getD (l.length-1) noTab=t at *
 by_cases h2:checkC t c=0
 ·rw[if_neg (by simp [h2])]
  rw[applyF_zero h2] at e3
  generalize (applyF t c).1=u at *
  by_cases h3:l.length ≥ 16
  ·rw[if_pos h3]
   have q:decide ((l.length:Int) ≥ 16)=true:=decide_eq_true (by omega)
   repeat' (first|simp (maxSteps:=9999999) only[↓GE,PQ,seval,w,hs,hlt,q,eTab]|refine gS ?_|refine sp ?_ ?_ <;> intro h|refine gP e1 ?_|refine gN e3 ?_|(with_reducible apply And.intro)|exact aG|fail)
   all_goals exact rt []
  ·rw[if_neg h3]
   have q:decide ((l.length:Int) ≥ 16)=false:=decide_eq_false (by omega)
   repeat' (first|simp (maxSteps:=9999999) only[↓GE,PQ,seval,w,hs,hlt,q,eTab,List.nil_append]|refine gS ?_|refine sp ?_ ?_ <;> intro h|refine gP e1 ?_|refine gN e3 ?_|(with_reducible apply And.intro)|exact aG|fail)
   all_goals exact rtF [] eTab.eq_1
 ·rw[if_pos h2]
  have hA:applyF t c=(noTab,checkC t c):=by rw[applyF,if_pos h2]
  rw[hA] at e3
  have q:(checkC t c != 0)=true:=by simp [h2]
  generalize checkC t c=e at *
  repeat' (first|simp (maxSteps:=9999999) only[↓GE,PQ,seval,w,hs,hlt,q,eTab]|refine gS ?_|refine sp ?_ ?_ <;> intro h|refine gP e1 ?_|refine gN e3 ?_|(with_reducible apply And.intro)|exact aG|fail)
  all_goals exact rt []
theorem r37newest (l:List PTab) (h:OkTs l):Does Tryz.prog 55 [vPub l] [] (.tu [vTab (newestF l).1,I (newestF l).2]) [] []:=by
 refine wD Tryz.func55 fun cx hm0=>?_
 have hl:=h.1
 have e1:=r37valid l h
 unfold newestF
 cases hv:validB l with
 |false =>
  rw[if_pos rfl]
  rw[hv] at e1
  repeat' (first|refine gS ?_|refine sp ?_ ?_ <;> intro h|refine gP e1 ?_|(with_reducible apply And.intro)|exact aG|fail)
  all_goals exact rtF [] noTab.eq_1
 |true =>
  rw[hv] at e1
  rw[if_neg (by simp)]
  have hV1:=(validB_iff.1 hv).1
  have hs:=getD_map eTab [] noTab l (l.length-1) (by omega)
  have hlt:l.length-1<l.length:=by omega
  have w:IntKind.i64.wrap ((l.length:Int)-1)=((l.length-1:Nat):Int):=by rw[show (l.length:Int)-1=((l.length-1:Nat):Int) by omega];exact IntWalk.i64_in _ (by omega)
  unfold lastT
  generalize l.getD (l.length-1) noTab=t at *
  repeat' (first|refine gQ w hs hlt eTab.eq_1 ?_|refine sp ?_ ?_ <;> intro h|refine gP e1 ?_|(with_reducible apply And.intro)|exact aG|fail)
  all_goals exact rt []
theorem r37find (l:List PTab) (n:Int) (h:OkTs l):Does Tryz.prog 104 [vPub l,I n] [] (.tu [vTab (findP l n).1,I (findP l n).2]) [] []:=by
 refine wD Tryz.func104 fun cx hm0=>?_
 have hl:=h.1
 have e1:=r37valid l h
 cases hv:validB l with
 |false =>
  have hf:findP l n=(noTab,2):=by rw[findP,if_pos hv]
  rw[hf]
  rw[hv] at e1
  repeat' (first|refine gS ?_|refine sp ?_ ?_ <;> intro h|refine gP e1 ?_|(with_reducible apply And.intro)|exact aG|fail)
  all_goals exact rtF [] noTab.eq_1
 |true =>
  rw[hv] at e1
  have hf:findP l n=match findT n l with|some t=>(t,0)|none=>(noTab,6):=by
   rw[findP,if_neg (by simp [hv])]
   try rfl
  repeat' (first|refine gS ?_|refine sp ?_ ?_ <;> intro h|refine gP e1 ?_|(with_reducible apply And.intro)|exact aG|fail)
  refine go_loop 5000 hm0 (ι:={k:Nat // k≤l.length∧∀ j,j<k→(l.getD j noTab).num ≠ n}) (fun i=>[(1,I n),(2,.bp 2 0 0),(4,.bp 4 0 0),(6,I i.1)]) (fun i=>[(2,.box 0 [.d (dTabs l)]),(4,.box 0 [I 0,I 0,I 0,.nl 1])]) (fun i=>l.length-i.1) [] ⟨0,Nat.zero_le _,fun j hj=>by omega⟩ ?_ ?_
  ·exact aH
  ·rintro⟨k,hk,hn⟩
   simp only
   by_cases hkl:k<l.length
   ·have hs1:=getD_map eTab [] noTab l k hkl
    have hhit:=findT_hit (n:=n) hkl hn
    have hgo:(l.getD k noTab).num ≠ n→∀ j,j<k+1→(l.getD j noTab).num ≠ n:=fun hne j hj=>by
     by_cases e:j=k
     ·subst e;exact hne
     ·exact hn j (by omega)
    generalize l.getD k noTab=t at *
    by_cases g:t.num=n
    ·have q:(t.num == n)=true:=by simp [g]
     rw[hhit g] at hf
     rw[hf]
     repeat' (first|refine gQ hs1 hkl q eTab.eq_1 ?_|refine sp ?_ ?_ <;> intro h|(with_reducible apply And.intro)|exact aG|fail)
     all_goals exact rt []
    ·have q:(t.num == n)=false:=by simp [g]
     repeat' (first|refine gQ hs1 hkl q eTab.eq_1 ?_|refine sp ?_ ?_ <;> intro h|(with_reducible apply And.intro)|exact aG|fail)
     refine⟨⟨k+1,hkl,hgo g⟩,?_,by simp only;omega⟩
     exact aH
   ·obtain rfl:k=l.length:=by omega
    rw[findT_none hn] at hf
    rw[hf]
    repeat' (first|refine gS ?_|refine sp ?_ ?_ <;> intro h|(with_reducible apply And.intro)|exact aG|fail)
    all_goals exact rtF [] noTab.eq_1
theorem getD_app {α:Type} (z:α) (l:List α) (u:α) (k:Nat):(l++[u]).getD k z=if k<l.length then l.getD k z else if k=l.length then u else z:=by
 rw[List.getD_eq_getElem?_getD,List.getElem?_append]
 split
 ·rw[← List.getD_eq_getElem?_getD]
 ·rename_i h
  by_cases e:k=l.length
  ·rw[if_pos e];subst e;simp
  ·rw[if_neg e,List.getElem?_eq_none (by simp;omega)];rfl
theorem lastT_app {l:List PTab} {u:PTab}:lastT (l++[u])=u:=by
 unfold lastT
 rw[getD_app,if_neg (by simp),if_pos (by simp)]
theorem validP.app {l:List PTab} {u:PTab} (h:validP l) (hc:checkT u=0) (hp:u.p=(lastT l).p) (hw:u.width=(lastT l).width) (hn:(lastT l).num<u.num) (hl:l.length<16):validP (l++[u]):=by
 obtain⟨h1,h2,h3⟩:=h
 have hla:=h3 (l.length-1) (by omega)
 refine⟨by simp,by simp;omega,fun k hk=>?_⟩
 rw[List.length_append,List.length_singleton] at hk
 unfold okAt
 rw[getD_app,getD_app,getD_app,if_pos (show 0<l.length by omega)]
 by_cases e:k<l.length
 ·have:=h3 k e
  rw[if_pos e]
  refine⟨this.1,this.2.1,this.2.2.1,fun h0=>?_⟩
  rw[if_pos (show k-1<l.length by omega)]
  exact this.2.2.2 h0
 ·have e:k=l.length:=by omega
  subst e
  rw[if_neg (Nat.lt_irrefl _),if_pos rfl]
  refine⟨hc,hp.trans hla.2.1,hw.trans hla.2.2.1,fun h0=>?_⟩
  rw[if_pos (show l.length-1<l.length by omega)]
  exact hn
theorem validP.one {t:PTab} (h:checkT t=0):validP [t]:=by
 refine⟨by simp,by simp,fun k hk=>?_⟩
 obtain rfl:k=0:=by simpa using hk
 exact⟨h,rfl,rfl,fun h=>by omega⟩
theorem pubF_ok {l:List PTab} {c:PChg} (h:validP l) (hc:checkC (lastT l) c=0) (hl:l.length<16):pubF l c=(l++[(applyF (lastT l) c).1],0):=by
 rw[pubF,if_neg (by simp [validB_yes h]),if_neg (by simp [hc]),if_neg (by omega)]
theorem formF_len2 {c:PChg} (h:formF c=true):c.sets.length≤1024:=by
 obtain⟨f1,f2,f3,f4,f5,f6⟩:=formF_ok h
 have:=formGo_len f6 (by omega)
 omega
theorem leads_small {a b:PTab} (ha:checkT a=0) (hb:checkT b=0) (hp:a.p=b.p) (hw:a.width=b.width) (hn:a.num<b.num):(betweenF a b).2=0∧checkC a (betweenF a b).1=0∧applyF a (betweenF a b).1=(b,0)∧(betweenF a b).1.sets.length≤1024∧ShortS (betweenF a b).1.sets:=by
 obtain⟨b1,b2⟩:=between_leads ha hb hp hw hn
 rw[b1]
 obtain⟨c1,c2⟩:=b2.apply ha hp.symm hw.symm
 obtain⟨_,_,_,_,_,hw2,_⟩:=checkT_ok ha
 exact⟨rfl,c1,c2,formF_len2 b2.form,fun s hs=>by have:=(b2.rows s hs).1;omega⟩
structure PubOK (ts:List PTab) (n:Nat):Prop where
 valid:validP ts
 len:ts.length≤n+1
 tabs:∀ t ∈ ts,TabOK t n
theorem PubOK.last {ts:List PTab} {n:Nat} (h:PubOK ts n):TabOK (lastT ts) n:=h.tabs _ (mem_getD _ _ _ (by have:=h.valid.1;omega))
theorem PubOK.next {ts:List PTab} {n:Nat} (h:PubOK ts n) (hn:n≤10) (l:List UInt8) (k:Nat):PubOK (ts++[(laterG l (lastT ts) k).1]) (n+1):=by
 have hl:=h.last
 have hok:=laterG_ok l k hl
 obtain⟨a1,a2,a3⟩:=laterG_num l k (lastT ts)
 refine⟨h.valid.app (hok.check (by omega)) a2 a3 a1 (by have:=h.len;omega),by have:=h.len;simp;omega,fun t ht=>?_⟩
 rcases List.mem_append.1 ht with ht|ht
 ·exact (h.tabs t ht).mono (by omega)
 ·simp only[List.mem_singleton] at ht
  subst ht;exact hok
theorem pub_step (l:List UInt8) {ts:List PTab} {n:Nat} (h:PubOK ts n) (hn:n≤10) (k:Nat):pubF ts (chgG l (lastT ts) k).1=(ts++[(laterG l (lastT ts) k).1],0)∧(chgG l (lastT ts) k).1.sets.length≤1024∧ShortS (chgG l (lastT ts) k).1.sets:=by
 have hl:=h.last
 have hok:=laterG_ok l k hl
 obtain⟨a1,a2,a3⟩:=laterG_num l k (lastT ts)
 obtain⟨b1,b2,b3,b4,b5⟩:=leads_small (hl.check (by omega)) (hok.check (by omega)) a2.symm a3.symm a1
 have hc:(chgG l (lastT ts) k).1=(betweenF (lastT ts) (laterG l (lastT ts) k).1).1:=rfl
 rw[hc]
 exact⟨by rw[pubF_ok h.valid b2 (by have:=h.len;omega),b3],b4,b5⟩
theorem pub_one {t:PTab} (h:TabOK t 0):PubOK [t] 0:=⟨validP.one (h.check (by omega)),by simp,fun u hu=>by simp at hu;subst hu;exact h⟩
theorem validP.mono {ts:List PTab} (h:validP ts):∀ {d i:Nat},i+d+1<ts.length→(ts.getD i noTab).num<(ts.getD (i+d+1) noTab).num
 |0,i,hi=>(h.2.2 (i+1) hi).2.2.2 (by omega)
 |d+1,i,hi=>by
  have h1:=h.mono (d:=d) (i:=i) (by omega)
  have h2:=(h.2.2 (i+(d+1)+1) hi).2.2.2 (by omega)
  rw[show i+(d+1)+1-1=i+d+1 by omega] at h2
  omega
theorem validP.lt {ts:List PTab} (h:validP ts) {i j:Nat} (hij:i<j) (hj:j<ts.length):(ts.getD i noTab).num<(ts.getD j noTab).num:=by
 have:=h.mono (d:=j-i-1) (i:=i) (by omega)
 rwa [show i+(j-i-1)+1=j by omega] at this
theorem validP.find {ts:List PTab} (h:validP ts) {k:Nat} (hk:k<ts.length):findP ts (ts.getD k noTab).num=(ts.getD k noTab,0):=by
 rw[findP,if_neg (by simp [validB_yes h]),findT_hit hk (fun j hj=>by have:=h.lt hj hk;omega) rfl]
theorem keepN_mem {ts:List PTab} {vs:List Int}:∀ {n:Nat} {t:PTab},t ∈ keepN ts vs n→∃ j,j<n∧t=ts.getD j noTab∧delB ts.length vs j t=false
 |0,t,h=>by simp [keepN] at h
 |n+1,t,h=>by
  rw[keepN] at h
  split at h
  ·obtain⟨j,h1,h2⟩:=keepN_mem h
   exact⟨j,by omega,h2⟩
  ·rename_i hd
   rcases List.mem_append.1 h with h|h
   ·obtain⟨j,h1,h2⟩:=keepN_mem h
    exact⟨j,by omega,h2⟩
   ·simp only[List.mem_singleton] at h
    subst h
    exact⟨n,by omega,rfl,by simpa using hd⟩
theorem keepN_valid {ts:List PTab} {vs:List Int} (h:validP ts):∀ {n:Nat},n≤ts.length→keepN ts vs n=[]∨(validP (keepN ts vs n)∧∃ j,j<n∧lastT (keepN ts vs n)=ts.getD j noTab)
 |0,_=>.inl rfl
 |n+1,hn=>by
  have a:=h.2.2 n (by omega)
  rw[keepN]
  split
  ·rcases keepN_valid (vs:=vs) h (n:=n) (by omega) with g|⟨g1,j,g2,g3⟩
   ·exact .inl g
   ·exact .inr ⟨g1,j,by omega,g3⟩
  ·refine .inr ?_
   rcases keepN_valid (vs:=vs) h (n:=n) (by omega) with g|⟨g1,j,g2,g3⟩
   ·rw[g]
    exact⟨validP.one a.1,n,by omega,rfl⟩
   ·have b:=h.2.2 j (by omega)
    refine⟨g1.app a.1 (by rw[g3];exact a.2.1.trans b.2.1.symm) (by rw[g3];exact a.2.2.1.trans b.2.2.1.symm) (by rw[g3];exact h.lt g2 (by omega)) (by have:=keepN_len (l:=ts) (vs:=vs) (n:=n);have:=h.2.1;omega),n,by omega,lastT_app⟩
theorem keepF_last {ts:List PTab} {vs:List Int} (h:validP ts):validP (keepF ts vs)∧lastT (keepF ts vs)=lastT ts:=by
 have h1:=h.1
 obtain⟨m,hm⟩:∃ m,ts.length=m+1:=⟨ts.length-1,by omega⟩
 have hd:delB ts.length vs m (ts.getD m noTab)=false:=by rw[delB,decide_eq_false (by omega)];rfl
 have hK:keepF ts vs=keepN ts vs m++[ts.getD m noTab]:=by rw[keepF,hm,keepN,hd,if_neg (by simp)]
 refine⟨?_,?_⟩
 ·rcases keepN_valid (vs:=vs) h (n:=ts.length) (Nat.le_refl _) with g|g
  ·have:keepF ts vs=[]:=g
   rw[hK] at this
   simp at this
  ·exact g.1
 ·rw[hK,lastT_app,lastT,hm];rfl
end Go.Proofs.YticdbambknflgaaGreat.Sim
end
