/- Plans, faults, people, seeds, out of a deck. -/
import Derived.Test.YtacfbiegbdlldaaGreatDoorVTpA
import Derived.Test.YtacfbiegbdlldaaGreatDoorVSimLq
import Derived.Test.YtacfbiegbdlldaaGreatDoorVTpM
import Derived.Test.YtacfbiegbdlldaaGreatDoorVTpDb
section
namespace Go.Proofs.YtacfbiegbdlldaaGreatDoor.Sim
open Go Go.RowKit Go.Deep
set_option maxRecDepth 100000
set_option maxHeartbeats 4000000
set_option linter.unusedVariables false
set_option linter.unusedSimpArgs false
attribute [local irreducible] Go Mean
def ordJ (l:List Int) (rest:List Int) (k:Nat):Nat:=(nextV l k rest.length).toNat
def ordR (l rest:List Int) (k:Nat):List Int:=rest.take (ordJ l rest k)++rest.drop (ordJ l rest k+1)
def ordF (l:List Int):Nat→List Int→Nat→List Int × Nat
 |0,_,k=>([],k)
 |f+1,rest,k=>match rest with
  |[]=>([],k)
  |x :: r=>let s:=ordF l f (ordR l (x :: r) k) (nextK l k (x :: r).length);((x :: r).getD (ordJ l (x :: r) k) 0 :: s.1,s.2)
theorem ordJ_lt {l rest:List Int} {k:Nat} (h:0<rest.length):ordJ l rest k<rest.length∧nextV l k rest.length=(ordJ l rest k:Int):=by
 unfold ordJ
 have hb:0≤nextV l k rest.length∧nextV l k rest.length<rest.length:=by
  unfold nextV
  split
  ·omega
  ·exact⟨Int.emod_nonneg _ (by omega),Int.emod_lt_of_pos _ (by omega)⟩
 omega
theorem ordR_len {l rest:List Int} {k:Nat} (h:0<rest.length):(ordR l rest k).length+1=rest.length:=by
 have:=(ordJ_lt (l:=l) (k:=k) h).1
 unfold ordR
 rw[List.length_append,List.length_take,List.length_drop];omega
def upTo (n:Nat):List Int:=(List.range n).map fun i:Nat=>(i:Int)
theorem upTo_len {n:Nat}:(upTo n).length=n:=by simp [upTo]
theorem upTo_next {n:Nat}:upTo (n+1)=upTo n++[(n:Int)]:=by simp [upTo,List.range_succ]
theorem ordF_step {l rest:List Int} {f k:Nat} (h:0<rest.length):ordF l (f+1) rest k=(rest.getD (ordJ l rest k) 0 :: (ordF l f (ordR l rest k) (nextK l k rest.length)).1,(ordF l f (ordR l rest k) (nextK l k rest.length)).2):=by
 cases rest with
 |nil=>simp at h
 |cons x r=>rfl
theorem orderT (l:List Int) (hl:l.length≤17592186044416) (k n:Nat) (hn:n≤1000000) :
  Does Tryz.prog 49 [dkp,I n] (dk l k) (.d (dInts (ordF l n (upTo n) k).1)) (dk l (ordF l n (upTo n) k).2) []:=by
 refine G12' rfl BxOK.one fun cx hm0=>go_in 5000 ?_
 unfold A12' R12'
 repeat' (first|simp (maxSteps:=9999999) only[↓GE,PL,PP,EE,QQ,seval]|(simp (disch:=omega) only[i6])|(apply go_brD<;>intro h)|(apply go_gsD aE<;>intro h)|(apply go_br<;>intro h)|(apply go_gs aE<;>intro h)|(with_reducible apply And.intro)|exact aG|fail)
 refine go_loopz 5000 hm0 (ι:={q:Nat × Nat // q.1≤n}) (fun q=>[(0,dkp),(5,.og 16 q.1.2),(6,.nl 1),(9,I n),(10,I q.1.1)]) (fun q=>[(900000,.box 0 [.d (dInts l),I k]),(16,.arr q.1.2 1 true ((upTo q.1.1).map eI))]) (fun q=>n-q.1.1) [] [16] ⟨(0,0),Nat.zero_le _⟩ ?_ ?_
 ·simp only[GeZ];(simp only[GeS];refine⟨?_,?_,?_,?_⟩;all_goals (repeat' (first|(with_reducible exact True.intro)|(with_reducible rfl)|simp only[XC,↓reduceIte,seval]|(with_reducible apply And.intro)|(refine⟨_,rfl,?_⟩)|(simp [upTo];done)|exact aS|fail)))
 rintro⟨⟨i,v⟩,hi⟩
 simp only at hi ⊢
 by_cases hin:i<n
 ·have r1:decide ((i:Int)<(n:Int))=true:=dt (by omega)
  have u1:IntKind.i64.wrap ((i:Int)+1)=((i+1:Nat):Int):=by rw[i6 _ (by omega)];omega
  have hul:=upTo_len (n:=i)
  have hnx:=upTo_next (n:=i)
  generalize upTo i=UU at *
  repeat' (first|simp (maxSteps:=9999999) only[↓GE,PL,PP,EE,QQ,seval,r1,u1,hul,lm]|(simp (disch:=omega) only[i6])|(apply go_brD<;>intro h)|(apply go_gsD aE<;>intro h)|(apply go_br<;>intro h)|(apply go_gs aE<;>intro h)|(with_reducible apply And.intro)|exact aG|fail)
  refine⟨[],[],⟨(i+1,v+1),hin⟩,?_,by simp only;omega⟩
  simp only[GeZ];(simp only[GeS];refine⟨?_,?_,?_,?_⟩;all_goals (repeat' (first|(with_reducible exact True.intro)|(with_reducible rfl)|simp only[XC,↓reduceIte,seval]|(with_reducible apply And.intro)|(refine⟨_,rfl,?_⟩)|(simp [hnx,eI];done)|exact aS|fail)))
 obtain rfl:i=n:=by omega
 have r1:decide ((i:Int)<(i:Int))=false:=df (by omega)
 repeat' (first|simp (maxSteps:=9999999) only[↓GE,PL,PP,EE,QQ,seval,r1]|(simp (disch:=omega) only[i6])|(apply go_brD<;>intro h)|(apply go_gsD aE<;>intro h)|(apply go_br<;>intro h)|(apply go_gs aE<;>intro h)|(with_reducible apply And.intro)|exact aG|fail)
 refine go_loopz 5000 hm0 (ι:={q:List Int × List Int × Nat × Nat // q.1.length≤i∧q.2.1.length≤i∧q.2.1.length+q.1.length=i∧q.2.1++(ordF l q.1.length q.1 q.2.2.1).1=(ordF l i (upTo i) k).1∧(ordF l q.1.length q.1 q.2.2.1).2=(ordF l i (upTo i) k).2}) (fun q=>[(0,dkp),(5,.d (dInts q.1.1)),(6,.og 31 q.1.2.2.2)]) (fun q=>[(900000,.box 0 [.d (dInts l),I q.1.2.2.1]),(31,.arr q.1.2.2.2 1 true (q.1.2.1.map eI))]) (fun q=>q.1.1.length) [.og 16 v] [31] ⟨(upTo i,[],k,0),by rw[upTo_len];exact Nat.le_refl _,Nat.zero_le _,by rw[upTo_len];simp,by rw[upTo_len];rfl,by rw[upTo_len]⟩ ?_ ?_
 ·simp only[GeZ];exact aH
 rintro⟨⟨rest,out,kk,vv⟩,h1,h2,h3,h4,h5⟩
 simp only at h1 h2 h3 h4 h5 ⊢
 rcases Nat.eq_zero_or_pos rest.length with h0|h0
 ·have hr0:rest=[]:=List.eq_nil_of_length_eq_zero h0
  subst hr0
  have q1:decide ((0:Int)<(([]:List Int).length:Int))=false:=rfl
  simp only[List.length_nil,ordF,List.append_nil] at h4 h5
  rw[← h4,← h5]
  repeat' (first|simp (maxSteps:=9999999) only[↓GE,PL,PP,EE,QQ,seval,q1,lm]|(simp (disch:=omega) only[i6])|(apply go_brD<;>intro h)|(apply go_gsD aE<;>intro h)|(apply go_br<;>intro h)|(apply go_gs aE<;>intro h)|(with_reducible apply And.intro)|exact aG|fail)
  ((first|apply ret_mk []|apply end_mk []);(· exact aR);(· exact aZ);all_goals exact aF)
 ·have q1:decide ((0:Int)<(rest.length:Int))=true:=dt (by omega)
  obtain⟨hj,hje⟩:=ordJ_lt (l:=l) (k:=kk) h0
  have e1:=next l hl kk rest.length (by omega)
  rw[hje] at e1
  obtain⟨f,hf⟩:∃ f,rest.length=f+1:=⟨rest.length-1,by omega⟩
  have hst:=ordF_step (l:=l) (f:=f) (k:=kk) h0
  rw[hf,hst] at h4 h5
  simp only at h4 h5
  have hrl:=ordR_len (l:=l) (k:=kk) h0
  have hR:ordR l rest kk=rest.take (ordJ l rest kk)++rest.drop (ordJ l rest kk+1):=rfl
  have hs:=getD_map eI [] 0 rest (ordJ l rest kk) hj
  have hkk:nextK l kk (f+1:Nat)=nextK l kk (rest.length:Nat):=by rw[hf]
  have hRm:(ordR l rest kk).map eI=(rest.map eI).take (ordJ l rest kk)++(rest.map eI).drop (ordJ l rest kk+1):=by rw[hR,List.map_append,List.map_take,List.map_drop]
  generalize ordR l rest kk=RR at *
  generalize hjj:ordJ l rest kk=j at *
  generalize hxx:rest.getD j 0=x at *
  have w1:IntKind.i64.wrap ((j:Int)+1)=((j+1:Nat):Int):=by rw[i6 _ (by omega)];omega
  have hol:(List.map eI out).length≤1000000:=by rw[lm];omega
  have hlm:(rest.map eI).length=rest.length:=List.length_map _
  have hj2:j+1≤rest.length:=by omega
  have htl:((rest.map eI).take j).length=j:=by rw[List.length_take,hlm];omega
  have hdl:((rest.map eI).drop (j+1)).length=rest.length-(j+1):=by rw[List.length_drop,hlm]
  have hta:(rest.map eI).take rest.length=rest.map eI:=List.take_of_length_le (by omega)
  have hRf:RR.length=f:=by omega
  have hno:(out++[x]).length=out.length+1:=by simp
  cases hd:(rest.map eI).drop (j+1) with
  |nil =>
   rw[hd,List.append_nil] at hRm
   rw[hd] at hdl
   repeat' (first|simp (maxSteps:=9999999) only[↓GE,PL,PP,EE,QQ,seval,q1,w1,hs,hj,hta,hd,htl,eI,lm,Int.toNat_natCast]|(simp (disch:=omega) only[i6])|(apply go_brD<;>intro h)|(apply go_gsD aE<;>intro h)|(apply go_br<;>intro h)|(apply go_gs aE<;>intro h)|(apply go_call 5000 (e1) rfl rfl;iterate 4 (first|(exact CallForm.lent aL rfl rfl)|exact aC))|(with_reducible apply And.intro)|exact aG|fail)
   refine⟨[],[],⟨(RR,out++[x],nextK l kk rest.length,vv+1),by simp only;omega,by simp only[hno];omega,by simp only[hno];omega,by simp only;rw[hRf,List.append_assoc];exact h4,by simp only;rw[hRf];exact h5⟩,?_,by simp only;omega⟩
   simp only[GeZ];(simp only[GeS];refine⟨?_,?_,?_,?_⟩;all_goals (repeat' (first|(with_reducible exact True.intro)|(with_reducible rfl)|simp only[XC,↓reduceIte,seval]|(with_reducible apply And.intro)|(refine⟨_,rfl,?_⟩)|(simp [hRm,eI];done)|exact aS|fail)))
  |cons c ns =>
   rw[hd] at hRm
   rw[hd,List.length_cons] at hdl
   repeat' (first|simp (maxSteps:=9999999) only[↓GE,PL,PP,EE,QQ,seval,q1,w1,hs,hj,hta,hd,htl,eI,lm,List.length_cons,Int.toNat_natCast]|(simp (disch:=omega) only[i6])|(apply go_brD<;>intro h)|(apply go_gsD aE<;>intro h)|(apply go_br<;>intro h)|(apply go_gs aE<;>intro h)|(apply go_call 5000 (e1) rfl rfl;iterate 4 (first|(exact CallForm.lent aL rfl rfl)|exact aC))|(with_reducible apply And.intro)|exact aG|fail)
   refine⟨[.og 40 0],[],⟨(RR,out++[x],nextK l kk rest.length,vv+1),by simp only;omega,by simp only[hno];omega,by simp only[hno];omega,by simp only;rw[hRf,List.append_assoc];exact h4,by simp only;rw[hRf];exact h5⟩,?_,by simp only;omega⟩
   simp only[GeZ];(simp only[GeS];refine⟨?_,?_,?_,?_⟩;all_goals (repeat' (first|(with_reducible exact True.intro)|(with_reducible rfl)|simp only[XC,↓reduceIte,seval]|(with_reducible apply And.intro)|(refine⟨_,rfl,?_⟩)|(simp [hRm,eI];done)|exact aS|fail)))
end Go.Proofs.YtacfbiegbdlldaaGreatDoor.Sim
end
section
namespace Go.Proofs.YtacfbiegbdlldaaGreatDoor.Sim
open Go Go.RowKit Go.Deep
set_option maxRecDepth 100000
set_option maxHeartbeats 4000000
set_option linter.unusedVariables false
set_option linter.unusedSimpArgs false
attribute [local irreducible] Go Mean
def modP (x:Int):Int:=x % 2147483647
theorem tmod_range (x:Int):-2147483647<x.tmod 2147483647∧x.tmod 2147483647<2147483647:=by
 rcases Int.le_total 0 x with h|h
 ·rw[tmod_pos h];omega
 ·have e:=Int.neg_tmod (-x) 2147483647
  rw[Int.neg_neg,tmod_pos (x:=-x) (by omega)] at e
  rw[e];omega
theorem modP_plus (x:Int):(x.tmod 2147483647+2147483647) % 2147483647=modP x:=by
 unfold modP
 rcases Int.le_total 0 x with h|h
 ·rw[tmod_pos h];omega
 ·have e:=Int.neg_tmod (-x) 2147483647
  rw[Int.neg_neg,tmod_pos (x:=-x) (by omega)] at e
  rw[e];omega
theorem dmod (x:Int):Does Tryz.prog 70 [I x] [] (I (modP x)) [] []:=by
 refine G32' rfl BxOK.nil fun cx hm0=>go_in 5000 ?_
 unfold A32' R32'
 have h:=tmod_range x
 repeat' (first|simp (maxSteps:=9999999) only[↓GE,PL,PP,EE,QQ,seval]|(simp (disch:=omega) only[i6])|(apply go_brD<;>intro h)|(apply go_gsD aE<;>intro h)|(apply go_br<;>intro h)|(apply go_gs aE<;>intro h)|(with_reducible apply And.intro)|exact aG|fail)
 ·have h2:x.tmod 2147483647+2147483647=modP x:=by rw[← modP_plus];omega
  ((first|apply ret_mk []|apply end_mk []);(· exact aR);(· ((try simp only[CC,LL,EE,QQ,seval]) <;> repeat' (first|exact aD|(with_reducible apply And.intro)|(simp [*,h2];done)|(simp [*,h2];omega)|(simp_all [h2];done)|(simp_all [h2];omega))));all_goals (first|((try simp only[CC,LL,EE,QQ,seval]) <;> (repeat' (first|(with_reducible apply And.intro)|trivial|rfl|(simp [h2];done)));done)|exact aF))
 ·have h2:x.tmod 2147483647=modP x:=by rw[← modP_plus];omega
  ((first|apply ret_mk []|apply end_mk []);(· exact aR);(· ((try simp only[CC,LL,EE,QQ,seval]) <;> repeat' (first|exact aD|(with_reducible apply And.intro)|(simp [*,h2];done)|(simp [*,h2];omega)|(simp_all [h2];done)|(simp_all [h2];omega))));all_goals (first|((try simp only[CC,LL,EE,QQ,seval]) <;> (repeat' (first|(with_reducible apply And.intro)|trivial|rfl|(simp [h2];done)));done)|exact aF))
theorem modP_in (x:Int):0≤modP x∧modP x<2147483647:=by unfold modP;omega
def rowGo (d:Int) (l:List Int):Int:=l.foldl (fun d x=>(d*1000003+modP x+1) % 2147483647) d
def rowF (l:List Int):Int:=rowGo 2 l
theorem drow (l:List Int) (hl:l.length≤17592186044416):Does Tryz.prog 37 [.d (dInts l)] [] (I (rowF l)) [] []:=by
 refine G31' rfl BxOK.nil fun cx hm0=>go_in 5000 ?_
 unfold A31' R31'
 repeat' (first|simp (maxSteps:=9999999) only[↓GE,PL,PP,EE,QQ,seval]|(simp (disch:=omega) only[i6])|(apply go_brD<;>intro h)|(apply go_gsD aE<;>intro h)|(apply go_br<;>intro h)|(apply go_gs aE<;>intro h)|(with_reducible apply And.intro)|exact aG|fail)
 refine go_loop 5000 hm0 (ι:={p:Nat × Int // p.1≤l.length∧0≤p.2∧p.2<2147483647∧rowF l=rowGo p.2 (l.drop p.1)}) (fun i=>[(2,I 0),(3,I i.1.2),(6,.d (dInts l)),(7,I l.length),(8,I i.1.1)]) (fun i=>[]) (fun i=>l.length-i.1.1) [] ⟨(0,2),by simp [rowF]⟩ ?_ ?_
 ·exact aH
 ·rintro⟨⟨k,d⟩,hk,hd,hd2,hv⟩
  by_cases hkl:k<l.length
  ·have hs:=getD_map eI [] 0 l k hkl
   rw[drop_get 0 _ _ hkl] at hv
   generalize l.getD k 0=s at hs hv
   simp only[rowGo,List.foldl_cons] at hv hd hd2
   have h':=modP_in s
   repeat' (first|simp (maxSteps:=9999999) only[↓GE,PL,PP,EE,QQ,seval,hs,eI]|(simp (disch:=omega) only[i6])|(apply go_brD<;>intro h)|(apply go_gsD aE<;>intro h)|(apply go_br<;>intro h)|(apply go_gs aE<;>intro h)|(apply go_call 5000 (dmod s) rfl rfl;iterate 4 (first|(exact CallForm.plain rfl)|exact aC))|(with_reducible apply And.intro)|exact aG|fail)
   rw[tmod_pos (by omega)]
   refine⟨⟨(k+1,(d*1000003+modP s+1) % 2147483647),hkl,by omega,by omega,hv⟩,?_,by simp only;omega⟩
   exact aH
  ·have:k=l.length:=by simp only at hk;omega
   subst this
   simp only[List.drop_length,rowGo,List.foldl_nil] at hv
   repeat' (first|simp (maxSteps:=9999999) only[↓GE,PL,PP,EE,QQ,seval]|(simp (disch:=omega) only[i6])|(apply go_brD<;>intro h)|(apply go_gsD aE<;>intro h)|(apply go_br<;>intro h)|(apply go_gs aE<;>intro h)|(with_reducible apply And.intro)|exact aG|fail)
   all_goals ((first|apply ret_mk []|apply end_mk []);(· exact aR);(· ((try simp only[CC,LL,EE,QQ,seval]) <;> repeat' (first|exact aD|(with_reducible apply And.intro)|(simp [*,hv];done)|(simp [*,hv];omega)|(simp_all [hv];done)|(simp_all [hv];omega))));all_goals (first|((try simp only[CC,LL,EE,QQ,seval]) <;> (repeat' (first|(with_reducible apply And.intro)|trivial|rfl|(simp [hv];done)));done)|exact aF))
def elG (l:List Int) (p:Int) (k:Nat):Nat→List Int × Nat
 |0=>([],k)
 |n+1=>((elG l p k n).1++[nextV l (elG l p k n).2 p],nextK l (elG l p k n).2 p)
theorem elG_len {l:List Int} {p:Int} {k:Nat}:∀ {n:Nat},(elG l p k n).1.length=n
 |0=>rfl
 |n+1=>by rw[elG];simp [elG_len]
theorem elG_in {l:List Int} {p:Int} {k:Nat} (hp:1≤p):∀ {n:Nat},(elG l p k n).1.all (inE p)=true
 |0=>rfl
 |n+1=>by
  rw[elG,List.all_append,elG_in hp]
  have:=nextV_in l (elG l p k n).2 p
  simp [inE];omega
theorem elements (l:List Int) (hl:l.length≤17592186044416) (k:Nat) (p:Int) (hp2:p<4611686018427387904) (n:Nat) (hn:n≤1000000):Does Tryz.prog 39 [dkp,.ag [I p],I n] (dk l k) (.d (dInts (elG l p k n).1)) (dk l (elG l p k n).2) []:=by
 refine G9' rfl BxOK.one fun cx hm0=>go_in 5000 ?_
 unfold A9' R9'
 repeat' (first|simp (maxSteps:=9999999) only[↓GE,PL,PP,EE,QQ,seval]|(simp (disch:=omega) only[i6])|(apply go_brD<;>intro h)|(apply go_gsD aE<;>intro h)|(apply go_br<;>intro h)|(apply go_gs aE<;>intro h)|(with_reducible apply And.intro)|exact aG|fail)
 refine go_loopz 5000 hm0 (ι:={p:Nat × Nat // p.1≤n}) (fun i=>[(0,.bp 900000 0 0),(4,.bp 4 0 0),(7,.og 17 i.1.2),(8,I n),(9,I i.1.1)]) (fun i=>[(4,.box 0 [I p]),(17,.arr i.1.2 1 true ((elG l p k i.1.1).1.map eI)),(900000,.box 0 [.d (dInts l),I (elG l p k i.1.1).2])]) (fun i=>n-i.1.1) [] [17] ⟨(0,0),by simp⟩ ?_ ?_
 ·simp only[GeZ];(simp only[GeS];refine⟨?_,?_,?_,?_⟩;all_goals (repeat' (first|(with_reducible exact True.intro)|(with_reducible rfl)|simp only[XC,↓reduceIte,seval]|(with_reducible apply And.intro)|(refine⟨_,rfl,?_⟩)|(simp [elG];done)|exact aS|fail)))
 ·rintro⟨⟨j,v⟩,hj⟩
  simp only at hj ⊢
  have hlen:=elG_len (l:=l) (p:=p) (k:=k) (n:=j)
  by_cases hjn:j<n
  ·have r1:decide ((j:Int)<(n:Int))=true:=dt (by omega)
   have u1:IntKind.i64.wrap ((j:Int)+1)=((j+1:Nat):Int):=by rw[i6 _ (by omega)];omega
   repeat' (first|simp (maxSteps:=9999999) only[↓GE,PL,PP,EE,QQ,seval,r1,u1,hlen,lm]|(simp (disch:=omega) only[i6])|(apply go_brD<;>intro h)|(apply go_gsD aE<;>intro h)|(apply go_br<;>intro h)|(apply go_gs aE<;>intro h)|(apply go_call 5000 (next l hl (elG l p k j).2 p hp2) rfl rfl;iterate 4 (first|(exact CallForm.lent aL rfl rfl)|exact aC))|(with_reducible apply And.intro)|exact aG|fail)
   refine⟨[],[],⟨(j+1,v+1),hjn⟩,?_,by simp only;omega⟩
   simp only[GeZ];(simp only[GeS];refine⟨?_,?_,?_,?_⟩;all_goals (repeat' (first|(with_reducible exact True.intro)|(with_reducible rfl)|simp only[XC,↓reduceIte,seval]|(with_reducible apply And.intro)|(refine⟨_,rfl,?_⟩)|(simp [elG,eI];done)|exact aS|fail)))
  ·obtain rfl:j=n:=by omega
   have r1:decide ((j:Int)<(j:Int))=false:=df (by omega)
   repeat' (first|simp (maxSteps:=9999999) only[↓GE,PL,PP,EE,QQ,seval,r1]|(simp (disch:=omega) only[i6])|(apply go_brD<;>intro h)|(apply go_gsD aE<;>intro h)|(apply go_br<;>intro h)|(apply go_gs aE<;>intro h)|(with_reducible apply And.intro)|exact aG|fail)
   all_goals ((first|apply ret_mk []|apply end_mk []);(· exact aR);(· exact aZ);all_goals exact aF)
def rwG (l:List Int) (p:Int) (w:Nat) (k:Nat):Nat→List (List Int) × Nat
 |0=>([],k)
 |n+1=>((rwG l p w k n).1++[(elG l p (rwG l p w k n).2 w).1],(elG l p (rwG l p w k n).2 w).2)
theorem rwG_len {l:List Int} {p:Int} {w:Nat} {k:Nat}:∀ {n:Nat},(rwG l p w k n).1.length=n
 |0=>rfl
 |n+1=>by rw[rwG];simp [rwG_len]
theorem rwG_ok {l:List Int} {p:Int} {w:Nat} {k:Nat} (hp:1≤p):∀ {n:Nat},RowsOK p w (rwG l p w k n).1
 |0=>fun r h=>by cases h
 |n+1=>fun r h=>by
  rw[rwG] at h
  rcases List.mem_append.1 h with h|h
  ·exact rwG_ok hp r h
  ·simp only[List.mem_singleton] at h
   subst h
   exact⟨by rw[elG_len];omega,elG_in hp⟩
theorem makeRows (l:List Int) (hl:l.length≤17592186044416) (k:Nat) (p:Int) (hp2:p<4611686018427387904) (n w:Nat) (hn:n≤1000000) (hw:w≤1000000):Does Tryz.prog 10 [dkp,.ag [I p],I n,I w] (dk l k) (.d (dRows (rwG l p w k n).1)) (dk l (rwG l p w k n).2) []:=by
 refine G8' rfl BxOK.one fun cx hm0=>go_in 5000 ?_
 unfold A8' R8'
 repeat' (first|simp (maxSteps:=9999999) only[↓GE,PL,PP,EE,QQ,seval]|(simp (disch:=omega) only[i6])|(apply go_brD<;>intro h)|(apply go_gsD aE<;>intro h)|(apply go_br<;>intro h)|(apply go_gs aE<;>intro h)|(with_reducible apply And.intro)|exact aG|fail)
 refine go_loopz 5000 hm0 (ι:={p:Nat × Nat // p.1≤n}) (fun i=>[(0,.bp 900000 0 0),(3,I w),(5,.bp 5 0 0),(9,.og 19 i.1.2),(10,I n),(11,I i.1.1)]) (fun i=>[(5,.box 0 [I p]),(19,.arr i.1.2 1 true ((rwG l p w k i.1.1).1.map eR)),(900000,.box 0 [.d (dInts l),I (rwG l p w k i.1.1).2])]) (fun i=>n-i.1.1) [] [19] ⟨(0,0),by simp⟩ ?_ ?_
 ·simp only[GeZ];(simp only[GeS];refine⟨?_,?_,?_,?_⟩;all_goals (repeat' (first|(with_reducible exact True.intro)|(with_reducible rfl)|simp only[XC,↓reduceIte,seval]|(with_reducible apply And.intro)|(refine⟨_,rfl,?_⟩)|(simp [rwG];done)|exact aS|fail)))
 ·rintro⟨⟨j,v⟩,hj⟩
  simp only at hj ⊢
  have hlen:=rwG_len (l:=l) (p:=p) (k:=k) (w:=w) (n:=j)
  by_cases hjn:j<n
  ·have r1:decide ((j:Int)<(n:Int))=true:=dt (by omega)
   have u1:IntKind.i64.wrap ((j:Int)+1)=((j+1:Nat):Int):=by rw[i6 _ (by omega)];omega
   repeat' (first|simp (maxSteps:=9999999) only[↓GE,PL,PP,EE,QQ,seval,r1,u1,hlen,lm]|(simp (disch:=omega) only[i6])|(apply go_brD<;>intro h)|(apply go_gsD aE<;>intro h)|(apply go_br<;>intro h)|(apply go_gs aE<;>intro h)|(apply go_call 5000 (elements l hl (rwG l p w k j).2 p hp2 w hw) rfl rfl;iterate 4 (first|(exact CallForm.lent aL rfl rfl)|exact aC))|(with_reducible apply And.intro)|exact aG|fail)
   refine⟨[],[],⟨(j+1,v+1),hjn⟩,?_,by simp only;omega⟩
   simp only[GeZ];(simp only[GeS];refine⟨?_,?_,?_,?_⟩;all_goals (repeat' (first|(with_reducible exact True.intro)|(with_reducible rfl)|simp only[XC,↓reduceIte,seval]|(with_reducible apply And.intro)|(refine⟨_,rfl,?_⟩)|(simp [rwG,eR];done)|exact aS|fail)))
  ·obtain rfl:j=n:=by omega
   have r1:decide ((j:Int)<(j:Int))=false:=df (by omega)
   repeat' (first|simp (maxSteps:=9999999) only[↓GE,PL,PP,EE,QQ,seval,r1]|(simp (disch:=omega) only[i6])|(apply go_brD<;>intro h)|(apply go_gsD aE<;>intro h)|(apply go_br<;>intro h)|(apply go_gs aE<;>intro h)|(with_reducible apply And.intro)|exact aG|fail)
   all_goals ((first|apply ret_mk []|apply end_mk []);(· exact aR);(· exact aZ);all_goals exact aF)
end Go.Proofs.YtacfbiegbdlldaaGreatDoor.Sim
end
section
namespace Go.Proofs.YtacfbiegbdlldaaGreatDoor.Sim
open Go Go.RowKit Go.Deep
set_option maxRecDepth 100000
set_option maxHeartbeats 4000000
set_option linter.unusedVariables false
set_option linter.unusedSimpArgs false
attribute [local irreducible] Go Mean
def pList:List Int:=[2,3,5,7,11,13,17,257,65521]
def bigN (least:Int):Nat:=(pList.takeWhile fun x=>decide (x≤least)).length
def bigL (least:Int):List Int:=pList.drop (bigN least)
def bigG (l:List Int) (k:Nat) (least:Int):Int:=(bigL least).getD (nextV l k (bigL least).length).toNat 0
theorem fieldB_small:∀ n:Nat,n<9→fieldB (pList.getD n 0)=true:=by
 intro n hn
 have key:∀ n:Nat,n<9→2≤pList.getD n 0∧pList.getD n 0≤65521∧∀ d:Nat,d<256→2≤d→((d*d:Nat):Int)≤pList.getD n 0→(pList.getD n 0).tmod (d:Nat) ≠ 0:=by decide +kernel
 obtain⟨h1,h2,h3⟩:=key n hn
 rw[fieldB_iff]
 refine⟨h1,h2,fun d hd hdd=>?_⟩
 obtain⟨e,rfl⟩:=Int.eq_ofNat_of_zero_le (show 0≤d by omega)
 refine h3 e ?_ (by omega) (by rw[Int.natCast_mul];exact hdd)
 apply Nat.lt_of_not_le
 intro h
 have h4:(256:Int)*256≤(e:Int)*e:=Int.mul_le_mul (by omega) (by omega) (by omega) (by omega)
 omega
theorem bigN_key:∀ s:Nat,s<8→bigN s<9∧(∀ j:Nat,j<9→decide (pList.getD j 0≤(s:Int))=decide (j<bigN s)):=by decide +kernel
theorem bigN_small (s:Nat) (hs:s<8):bigN s<9∧(∀ j,j<bigN s→decide (pList.getD j 0≤(s:Int))=true)∧(∀ j,bigN s≤j→j<9→decide (pList.getD j 0≤(s:Int))=false):=by
 obtain⟨h1,h2⟩:=bigN_key s hs
 exact⟨h1,fun j hj=>by rw[h2 j (by omega)];exact dt hj,fun j hj h9=>by rw[h2 j h9];exact df (by omega)⟩
theorem bigG_ok (l:List Int) (k s:Nat) (hs:s<8):fieldB (bigG l k s)=true∧(s:Int)<bigG l k s:=by
 obtain⟨h1,h2,h3⟩:=bigN_small s hs
 have hll:(bigL s).length=9-bigN s:=by rw[bigL,List.length_drop];rfl
 have hv:=nextV_in l k (bigL s).length
 have hg:bigG l k s=pList.getD (bigN s+(nextV l k (bigL s).length).toNat) 0:=by
  simp only[bigG,bigL,List.getD_eq_getElem?_getD,List.getElem?_drop]
 rw[hg]
 refine⟨fieldB_small _ (by omega),?_⟩
 have:=h3 (bigN s+(nextV l k (bigL s).length).toNat) (by omega) (by omega)
 have:=of_decide_eq_false this
 omega
theorem bigT (l:List Int) (hl:l.length≤17592186044416) (k s:Nat) (hs:s<8):Does Tryz.prog 25 [dkp,I s] (dk l k) (.ag [I (bigG l k s)]) (dk l (nextK l k (bigL s).length)) []:=by
 obtain⟨h1,h2,h3⟩:=bigN_small s hs
 have hll:(bigL s).length=9-bigN s:=by rw[bigL,List.length_drop];rfl
 have hbl:bigL s=pList.drop (bigN s):=rfl
 refine G7' rfl BxOK.one fun cx hm0=>go_in 5000 ?_
 unfold A7' R7'
 repeat' (first|simp (maxSteps:=9999999) only[↓GE,PL,PP,EE,QQ,seval]|(simp (disch:=omega) only[i6])|(apply go_brD<;>intro h)|(apply go_gsD aE<;>intro h)|(apply go_br<;>intro h)|(apply go_gs aE<;>intro h)|(with_reducible apply And.intro)|exact aG|fail)
 refine go_loopz 5000 hm0 (ι:={j:Nat // j≤bigN s}) (fun q=>[(0,dkp),(1,I s),(4,.bp 4 0 0),(5,.d (dInts (pList.drop q.1)))]) (fun q=>[(4,.box 0 [I 0]),(900000,.box 0 [.d (dInts l),I k])]) (fun q=>bigN s-q.1) [.og 6 0] [] ⟨0,Nat.zero_le _⟩ ?_ ?_
 ·simp only[GeZ];(simp only[GeS];refine⟨?_,?_,?_,?_⟩;all_goals (repeat' (first|(with_reducible exact True.intro)|(with_reducible rfl)|simp only[XC,↓reduceIte,seval]|(with_reducible apply And.intro)|(refine⟨_,rfl,?_⟩)|(simp [pList,eI];done)|exact aS|fail)))
 rintro⟨j,hj⟩
 simp only at hj ⊢
 have hdg:=drop_get 0 pList j (show j<9 by omega)
 by_cases hjn:j<bigN s
 ·have r1:=h2 j hjn
  rw[hdg]
  have hR:pList.drop (j+1)=pList.drop (j+1):=rfl
  generalize pList.getD j 0=Y at *
  generalize hPR:pList.drop (j+1)=R at *
  have hcl:((Y :: R).map eI).length=R.length+1:=by simp
  have hcm:(Y :: R).map eI=eI Y :: R.map eI:=rfl
  repeat' (first|simp (maxSteps:=9999999) only[↓GE,PL,PP,EE,QQ,seval,r1,hcl,eI,lm]|(simp (disch:=omega) only[i6])|(apply go_brD<;>intro h)|(apply go_gsD aE<;>intro h)|(apply go_br<;>intro h)|(apply go_gs aE<;>intro h)|(with_reducible apply And.intro)|exact aG|fail)
  refine⟨[],[],⟨j+1,hjn⟩,?_,by simp only;omega⟩
  have hta:(R.map eI).take R.length=R.map eI:=List.take_of_length_le (by simp)
  simp only[GeZ];(simp only[GeS];refine⟨?_,?_,?_,?_⟩;all_goals (repeat' (first|(with_reducible exact True.intro)|(with_reducible rfl)|simp only[XC,↓reduceIte,seval]|(with_reducible apply And.intro)|(refine⟨_,rfl,?_⟩)|(simp [eI,hPR,hta];done)|exact aS|fail)))
 obtain rfl:j=bigN s:=by omega
 have r1:=h3 _ (Nat.le_refl _) h1
 have hv:=nextV_in l k (bigL s).length
 have e1:=next l hl k (bigL s).length (by omega)
 have hx:∃ i:Nat,nextV l k (bigL s).length=(i:Int)∧i<(bigL s).length:=⟨(nextV l k (bigL s).length).toNat,by omega,by omega⟩
 obtain⟨i,hi,hil⟩:=hx
 have hsi:=getD_map eI [] 0 (bigL s) i hil
 have hg:bigG l k s=(bigL s).getD i 0:=by rw[bigG,hi];rfl
 rw[hi] at e1
 rw[hg,hdg]
 have hlB:(bigL s).length=((pList.getD (bigN s) 0 :: pList.drop (bigN s+1)).map eI).length:=by rw[hbl,hdg,lm]
 rw[hlB] at e1 ⊢
 rw[hbl,hdg] at hsi hil ⊢
 generalize pList.getD (bigN s) 0=Y at *
 generalize pList.drop (bigN s+1)=R at *
 have hil':i<((Y :: R).map eI).length:=by rw[lm];exact hil
 have hsi':([D.at (.int .i64 Y)] :: R.map eI).getD i []=eI ((Y :: R).getD i 0):=hsi
 generalize (Y :: R).getD i 0=X at *
 repeat' (first|simp (maxSteps:=9999999) only[↓GE,PL,PP,EE,QQ,seval,r1,hsi',hil',eI]|(simp (disch:=omega) only[i6])|(apply go_brD<;>intro h)|(apply go_gsD aE<;>intro h)|(apply go_br<;>intro h)|(apply go_gs aE<;>intro h)|(apply go_call 5000 (e1) rfl rfl;iterate 4 (first|(exact CallForm.lent aL rfl rfl)|exact aC))|(with_reducible apply And.intro)|exact aG|fail)
 ((first|apply ret_mk []|apply end_mk []);(· exact aR);(· exact aZ);all_goals exact aF)
end Go.Proofs.YtacfbiegbdlldaaGreatDoor.Sim
end
section
namespace Go.Proofs.YtacfbiegbdlldaaGreatDoor.Sim
open Go Go.RowKit Go.Deep
set_option maxRecDepth 100000
set_option maxHeartbeats 4000000
set_option linter.unusedVariables false
set_option linter.unusedSimpArgs false
attribute [local irreducible] Go Mean
def nextN (l:List Int) (k:Nat) (n:Int):Nat:=(nextV l k n).toNat
theorem nextN_eq (l:List Int) (k:Nat) (n:Int):nextV l k n=(nextN l k n:Int):=by have:=nextV_in l k n;unfold nextN;omega
theorem nextN_lt (l:List Int) (k:Nat) (n:Nat) (h:1≤n):nextN l k n<n:=by have:=nextV_in l k n;unfold nextN;omega
theorem nextD (l:List Int) (hl:l.length≤17592186044416) (k:Nat) (n:Int) (hn:n<4611686018427387904):Does Tryz.prog 9 [dkp,I n] (dk l k) (I (nextN l k n)) (dk l (nextK l k n)) []:=by
 have:=next l hl k n hn
 rw[nextN_eq] at this
 exact this
structure PlanG where
 s:Nat
 d:Nat
 p:Int
 k:Nat
def spareN (s d:Nat):Nat:=s-d-1
def faultG (l:List Int) (k s d:Nat):Nat × Nat × Nat :=
 let wrong:=nextN l k (spareN s d / 2+1:Nat)
 let k1:=nextK l k (spareN s d / 2+1:Nat)
 (nextN l k1 (spareN s d-2*wrong+1:Nat),wrong,nextK l k1 (spareN s d-2*wrong+1:Nat))
theorem faultG_ok (l:List Int) (k s d:Nat) (h:d<s):(faultG l k s d).1+2*(faultG l k s d).2.1+d+1≤s:=by
 have h1:=nextN_lt l k (spareN s d / 2+1) (by omega)
 have h2:=nextN_lt l (nextK l k (spareN s d / 2+1:Nat)) (spareN s d-2*nextN l k (spareN s d / 2+1:Nat)+1) (by omega)
 simp only[faultG]
 unfold spareN at *
 omega
theorem faultsT (l:List Int) (hl:l.length≤17592186044416) (k s d:Nat) (h:d<s) (hs:s≤1000):Does Tryz.prog 17 [dkp,.ag [I s,I d]] (dk l k) (.tu [I (faultG l k s d).1,I (faultG l k s d).2.1]) (dk l (faultG l k s d).2.2) []:=by
 refine G2' rfl BxOK.one fun cx hm0=>go_in 5000 ?_
 unfold A2' R2'
 have hsp:spareN s d=s-d-1:=rfl
 have h1:=nextN_lt l k (spareN s d / 2+1) (by omega)
 have e1:=nextD l hl k (spareN s d / 2+1:Nat) (by omega)
 have e2:=nextD l hl (nextK l k (spareN s d / 2+1:Nat)) (spareN s d-2*nextN l k (spareN s d / 2+1:Nat)+1:Nat) (by omega)
 simp only[faultG]
 generalize spareN s d=z at *
 have w1:IntKind.i64.wrap ((s:Int)-(d:Int))=((s-d:Nat):Int):=by rw[i6 _ (by omega)];omega
 have w2:IntKind.i64.wrap (((s-d:Nat):Int)-1)=(z:Int):=by rw[i6 _ (by omega)];omega
 have w3:IntKind.i64.wrap (((z:Int).tdiv 2)+1)=((z / 2+1:Nat):Int):=by
  rw[show ((z:Int).tdiv 2)=((z / 2:Nat):Int) from by rw[Int.tdiv_eq_ediv_of_nonneg (by omega)];omega,i6 _ (by omega)];omega
 have w3':IntKind.i64.wrap ((z:Int).tdiv 2)=(z:Int).tdiv 2:=by
  rw[show ((z:Int).tdiv 2)=((z / 2:Nat):Int) from by rw[Int.tdiv_eq_ediv_of_nonneg (by omega)];omega,i6 _ (by omega)]
 have hz:(z / 2+1:Nat)=z / 2+1:=rfl
 generalize hz2:(z / 2+1:Nat)=z2 at *
 generalize hwr:nextN l k z2=wr at *
 have w4:IntKind.i64.wrap (2*(wr:Int))=((2*wr:Nat):Int):=by rw[i6 _ (by omega)];omega
 have w5:IntKind.i64.wrap ((z:Int)-((2*wr:Nat):Int))=((z-2*wr:Nat):Int):=by rw[i6 _ (by omega)];omega
 have w6:IntKind.i64.wrap (((z-2*wr:Nat):Int)+1)=((z-2*wr+1:Nat):Int):=by rw[i6 _ (by omega)];omega
 generalize (z-2*wr+1:Nat)=z3 at *
 generalize (2*wr:Nat)=t2 at *
 generalize (z-t2:Nat)=z4 at *
 generalize (s-d:Nat)=sd at *
 repeat' (first|simp (maxSteps:=9999999) only[↓GE,PL,PP,EE,QQ,seval,w1,w2,w3',w3,w4,w5,w6]|(simp (disch:=omega) only[i6])|(apply go_brD<;>intro h)|(apply go_gsD aE<;>intro h)|(apply go_br<;>intro h)|(apply go_gs aE<;>intro h)|(with_reducible apply And.intro)|exact aG|fail)
 (apply go_call 5000 (e1) rfl rfl;iterate 4 (first|(exact CallForm.lent aL rfl rfl)|exact aC))
 repeat' (first|simp (maxSteps:=9999999) only[↓GE,PL,PP,EE,QQ,seval,w1,w2,w3',w3,w4,w5,w6]|(simp (disch:=omega) only[i6])|(apply go_brD<;>intro h)|(apply go_gsD aE<;>intro h)|(apply go_br<;>intro h)|(apply go_gs aE<;>intro h)|(with_reducible apply And.intro)|exact aG|fail)
 (apply go_call 5000 (e2) rfl rfl;iterate 4 (first|(exact CallForm.lent aL rfl rfl)|exact aC))
 repeat' (first|simp (maxSteps:=9999999) only[↓GE,PL,PP,EE,QQ,seval,w1,w2,w3',w3,w4,w5,w6]|(simp (disch:=omega) only[i6])|(apply go_brD<;>intro h)|(apply go_gsD aE<;>intro h)|(apply go_br<;>intro h)|(apply go_gs aE<;>intro h)|(with_reducible apply And.intro)|exact aG|fail)
 ((first|apply ret_mk []|apply end_mk []);(· exact aR);(· exact aZ);all_goals exact aF)
end Go.Proofs.YtacfbiegbdlldaaGreatDoor.Sim
end
