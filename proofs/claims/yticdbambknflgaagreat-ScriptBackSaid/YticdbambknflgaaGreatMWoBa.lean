/- The world: what holds of it; servers by number, a copy. -/
import Derived.Test.YticdbambknflgaaGreatMWoAi
import Derived.Test.YticdbambknflgaaGreatMWoB
import Derived.Test.YticdbambknflgaaGreatMAcs
import Derived.Test.YticdbambknflgaaGreatMWoAu
import Derived.Test.YticdbambknflgaaGreatMWoV
section
namespace Go.Proofs.YticdbambknflgaaGreat.Sim
open Go
set_option maxRecDepth 100000
set_option maxHeartbeats 4000000
set_option linter.unusedVariables false
set_option linter.unusedSimpArgs false
attribute [local irreducible] Go Mean
def StOK (n:Int) (s:PStart):Prop:=0≤s.draws∧0≤s.fr∧s.draws≤n∧s.fr≤n
def DkOK (d:PDisk):Prop:=0≤d.drawn∧d.drawn≤16384∧d.begun.length≤64∧∀ s ∈ d.begun,StOK d.drawn s
theorem tape36 (seed:Int) (s:PStart) (hs:StOK 20000 s):DoesP Tryz.prog 127 [I seed,vStart s] (fun r=>∃ u b,r=vTape u b∧u.length≤1000000):=by
 obtain⟨h1,h2,h3,h4⟩:=hs
 refine⟨⟨_,[],0,rfl,by simp⟩,wE Tryz.func127 fun cx hm0=>?_⟩
 obtain⟨F,hF⟩:∃ F:Nat,s.fr=F:=⟨s.fr.toNat,by omega⟩
 obtain⟨D,hD⟩:∃ D:Nat,s.draws=D:=⟨s.draws.toNat,by omega⟩
 repeat' (first|refine gB hF hD ?_|refine sp ?_ ?_ <;> intro h|(with_reducible apply And.intro)|exact aG|fail)
 refine gl (κ:=Nat × Nat × (List Int)) hm0 (fun q_=>q_.1≤F∧q_.2.2.length=q_.1) (fun q_=>[(0,I seed),(3,.bp 3 0 0),(4,.bp 4 0 0),(5,.og 19 q_.2.1),(6,I q_.1)]) (fun q_=>[(3,.box 0 [I s.read,I s.version,I s.p,I F,I D]),(4,.box 0 [.nl 1,I 0]),(19,.arr q_.2.1 1 true (q_.2.2.map eI))]) (fun q_=>F-q_.1) [] [19] (0,0,[]) ?_
 rintro⟨k,v,l⟩ hI
 try simp only at hI ⊢
 try have hI2:=hI.2
 by_cases hk:k<F
 ·repeat' (first|refine gB hk eI.eq_1 ?_|refine sp ?_ ?_ <;> intro h|(with_reducible apply And.intro)|exact aG|fail)
  (exact⟨[],[],⟨(k+1,v+1,l++[1]),aI⟩,aX,aI⟩)
 obtain rfl:k=F:=by omega
 obtain⟨_,hl0⟩:=hI
 clear hI2
 repeat' (first|refine gS ?_|refine sp ?_ ?_ <;> intro h|(with_reducible apply And.intro)|exact aG|fail)
 refine gl (κ:=Nat × Nat × (List Int)) hm0 (fun q_=>q_.1≤D∧q_.2.2.length=k+q_.1) (fun q_=>[(0,I seed),(3,.bp 3 0 0),(4,.bp 4 0 0),(5,.og 19 q_.2.1),(7,I q_.1)]) (fun q_=>[(3,.box 0 [I s.read,I s.version,I s.p,I k,I D]),(4,.box 0 [.nl 1,I 0]),(19,.arr q_.2.1 1 true (q_.2.2.map eI))]) (fun q_=>D-q_.1) [] [] (0,v,l) ?_
 rintro⟨j,v,l⟩ hI
 try simp only at hI ⊢
 try have hI2:=hI.2
 by_cases hj:j<D
 ·repeat' (first|refine gB hj eI.eq_1 ?_|refine sp ?_ ?_ <;> intro h|(with_reducible apply And.intro)|exact aG|fail)
  (exact⟨[],[],⟨(j+1,v+1,l++[s.p]),aI⟩,aX,aI⟩)
 ·repeat' (first|refine gS ?_|refine sp ?_ ?_ <;> intro h|(exfalso;omega)|(refine gW (seeded2 seed l (by omega)) ?_;rintro _ ⟨u,e,rfl,hu⟩ <;> refine⟨rfl,?_⟩)|(with_reducible apply And.intro)|exact aG|fail)
  all_goals try (refine dP ?_;exact⟨[],_,rfl,by simp⟩)
  all_goals try (rw[List.length_drop,List.length_take,List.length_map];omega)
  all_goals (refine dP ?_;refine⟨u.drop k,0,?_,by rw[List.length_drop];omega⟩;simp [List.take_of_length_le,I,List.map_drop])
theorem find36 (d:PDisk) (n:Int) (hd:d.begun.length≤1000000):DoesP Tryz.prog 137 [vDisk d,I n] (fun r=>∃ i,r=I i∧-1≤i∧i<d.begun.length):=by
 refine⟨⟨_,-1,rfl,by omega,by omega⟩,wE Tryz.func137 fun cx hm0=>?_⟩
 repeat' (first|refine gS ?_|refine sp ?_ ?_ <;> intro h|(with_reducible apply And.intro)|exact aG|fail)
 refine gl (κ:=Nat) hm0 (fun q_=>q_≤d.begun.length) (fun q_=>[(1,I n),(2,.bp 2 0 0),(5,I q_)]) (fun q_=>[(2,.box 0 [I d.seed,I d.drawn,.d (dStarts d.begun)])]) (fun q_=>d.begun.length-q_) [] [] (0) ?_
 rintro k hI
 try simp only at hI ⊢
 try have hI2:=hI.2
 by_cases hk:k<d.begun.length
 ·have hs0:=getD_map eStart [] noStart d.begun k hk
  generalize d.begun.getD k noStart=x at *
  repeat' (first|refine gC hs0 hk eStart.eq_1 ?_|refine sp ?_ ?_ <;> intro h|(with_reducible apply And.intro)|exact aG|fail)
  ·refine dP ?_
   exact⟨k,rfl,by omega,by omega⟩
  ·(exact⟨[],[],⟨(k+1),aI⟩,aX,aI⟩)
 ·repeat' (first|refine gS ?_|refine sp ?_ ?_ <;> intro h|(with_reducible apply And.intro)|exact aG|fail)
  refine dP ?_
  exact⟨-1,rfl,by omega,by omega⟩
end Go.Proofs.YticdbambknflgaaGreat.Sim
end
section
namespace Go.Proofs.YticdbambknflgaaGreat.Sim
open Go
set_option maxRecDepth 100000
set_option maxHeartbeats 4000000
set_option linter.unusedVariables false
set_option linter.unusedSimpArgs false
attribute [local irreducible] Go Mean
theorem valid36 (d:PDisk) (hd:d.begun.length≤1000000):DoesP Tryz.prog 126 [vDisk d] (fun r=>∃ b,r=B b∧(b=true→DkOK d)):=by
 refine⟨⟨_,false,rfl,by simp⟩,wE Tryz.func126 fun cx hm0=>?_⟩
 repeat' (first|refine gS ?_|refine sp ?_ ?_ <;> intro h|(with_reducible apply And.intro)|exact aG|fail)
 all_goals try (refine dP ?_;exact⟨_,rfl,by simp⟩)
 refine gl (κ:=Nat) hm0 (fun q_=>q_≤d.begun.length∧∀ s ∈ d.begun.take q_,StOK d.drawn s) (fun q_=>[(1,.bp 1 0 0),(3,I q_)]) (fun q_=>[(1,.box 0 [I d.seed,I d.drawn,.d (dStarts d.begun)])]) (fun q_=>d.begun.length-q_) [] [] (0) ?_
 rintro k hI
 try simp only at hI ⊢
 try have hI2:=hI.2
 by_cases hk:k<d.begun.length
 ·have hs0:=getD_map eStart [] noStart d.begun k hk
  have ht:=take_succ_getD noStart d.begun k hk
  have hp1:0<k→(d.begun.map eStart).getD (k-1) []=eStart (d.begun.getD (k-1) noStart):=fun h=>getD_map eStart [] noStart d.begun (k-1) (by omega)
  generalize d.begun.getD k noStart=x at *
  generalize d.begun.getD (k-1) noStart=x' at *
  by_cases h0:k=0
  ·subst h0
   repeat' (first|refine gC hs0 hk eStart.eq_1 ?_|refine sp ?_ ?_ <;> intro h|(with_reducible apply And.intro)|exact aG|fail)
   all_goals try (refine dP ?_;exact⟨_,rfl,by simp⟩)
   all_goals try (exfalso;omega)
   refine⟨[],[],⟨0+1,hk,?_⟩,?_,aI⟩
   ·rw[ht];exact allA hI.2 ⟨by omega,by omega,by omega,by omega⟩
   ·exact aX
  ·have hp2:=hp1 (by omega)
   obtain⟨k,rfl⟩:∃ j,k=j+1:=⟨k-1,by omega⟩
   simp only[Nat.add_sub_cancel] at hp2
   have w1:IntKind.i64.wrap (((k+1:Nat):Int)-1)=(k:Int):=by rw[IntWalk.i64_in _ (by omega)];omega
   have hk2:k<d.begun.length:=by omega
   repeat' (first|simp (maxSteps:=9999999) only[↓GE,PQ,seval,w1,hs0,hp2,hk,hk2,eStart]|refine gS ?_|refine sp ?_ ?_ <;> intro h|(with_reducible apply And.intro)|exact aG|fail)
   all_goals try (refine dP ?_;exact⟨_,rfl,by simp⟩)
   all_goals try (exfalso;omega)
   refine⟨[],[],⟨k+1+1,hk,?_⟩,?_,aI⟩
   ·rw[ht];exact allA hI.2 ⟨by omega,by omega,by omega,by omega⟩
   ·exact aX
 ·have hall:=hI.2
  rw[List.take_of_length_le (by omega)] at hall
  repeat' (first|refine gS ?_|refine sp ?_ ?_ <;> intro h|(with_reducible apply And.intro)|exact aG|fail)
  refine dP ?_
  exact⟨_,rfl,fun _=>⟨by omega,by omega,by omega,hall⟩⟩
end Go.Proofs.YticdbambknflgaaGreat.Sim
end
section
namespace Go.Proofs.YticdbambknflgaaGreat.Sim
open Go
set_option maxRecDepth 100000
set_option maxHeartbeats 4000000
set_option linter.unusedVariables false
set_option linter.unusedSimpArgs false
attribute [local irreducible] Go Mean
theorem tape36' (seed a b c f n:Int) (h1:0≤n) (h2:0≤f) (h3:n≤20000) (h4:f≤20000):DoesP Tryz.prog 127 [I seed,.ag [I a,I b,I c,I f,I n]] (fun r=>∃ u b,r=vTape u b∧u.length≤1000000):=tape36 seed ⟨a,b,c,f,n⟩ ⟨h1,h2,h3,h4⟩
theorem begin36 (d:PDisk) (rd vn p dr:Int) (hd:d.begun.length≤64):DoesP Tryz.prog 94 [vDisk d,I rd,I vn,I p,I dr] (fun r=>∃ d' u b e,r=.tu [vDisk d',vTape u b,I e]∧d'.begun.length≤64∧u.length≤1000000):=by
 refine⟨⟨_,d,[],0,1,rfl,hd,by simp⟩,wE Tryz.func94 fun cx hm0=>?_⟩
 repeat' (first|refine gS ?_|refine sp ?_ ?_ <;> intro h|(exfalso;omega)|(refine gW (valid36 d (by omega)) ?_;rintro _ ⟨b,rfl,hb⟩ <;> refine⟨rfl,?_⟩)|(with_reducible apply And.intro)|exact aG|fail)
 all_goals try (refine dP ?_;exact⟨d,[],0,_,rfl,hd,by simp⟩)
 obtain⟨g1,g2,g3,g4⟩:=hb (by simp_all)
 refine gl (κ:=Nat) hm0 (fun q_=>q_≤d.begun.length) (fun q_=>[(1,I rd),(2,I vn),(3,I p),(4,I dr),(5,.bp 5 0 0),(10,.bp 10 0 0),(11,.bp 11 0 0),(13,I q_)]) (fun q_=>[(5,.box 0 [I d.seed,I d.drawn,.d (dStarts d.begun)]),(10,.box 0 [I 0,I 0,.nl 5]),(11,.box 0 [.nl 1,I 0])]) (fun q_=>d.begun.length-q_) [] [] (0) ?_
 rintro k hI
 try simp only at hI ⊢
 try have hI2:=hI.2
 have hq:(d.begun.take k).length≤64∧(d.begun.drop k).length≤64:=by rw[List.length_take,List.length_drop];omega
 have htk:(d.begun.map eStart).take d.begun.length=d.begun.map eStart:=List.take_of_length_le (by simp)
 by_cases hk:k<d.begun.length
 ·have hs0:=getD_map eStart [] noStart d.begun k hk
  generalize d.begun.getD k noStart=x at *
  repeat' (first|simp (maxSteps:=9999999) only[↓GE,PQ,seval,hs0,hk,htk,eStart,List.length_append,← List.map_take,← List.map_drop]|refine gS ?_|refine sp ?_ ?_ <;> intro h|(with_reducible apply And.intro)|exact aG|fail)
  all_goals try (exfalso;omega)
  all_goals try (refine dP ?_;exact⟨d,[],0,_,rfl,hd,by simp⟩)
  ·(exact⟨[],[],⟨(k+1),aI⟩,aX,aI⟩)
  all_goals (
   (refine gW (tape36' d.seed rd vn p d.drawn dr (by omega) (by omega) (by omega) (by omega)) ?_;rintro _ ⟨u,b,rfl,hu⟩ <;> refine⟨rfl,?_⟩)
   repeat' (first|refine gA htk ?_|refine sp ?_ ?_ <;> intro h|(with_reducible apply And.intro)|exact aG|fail)
   refine dP ?_
   refine⟨⟨d.seed,d.drawn+dr,d.begun.take k++⟨rd,vn,p,d.drawn,dr⟩ :: d.begun.drop k⟩,u,b,0,?_,?_,hu⟩
   ·simp [eStart,I]
   ·have:=congrArg List.length (List.take_append_drop k d.begun);simp only[List.length_append,List.length_cons] at this ⊢;omega)
 ·repeat' (first|simp (maxSteps:=9999999) only[↓GE,PQ,seval,hk,htk,eStart,List.length_append,← List.map_take,← List.map_drop]|refine gS ?_|refine sp ?_ ?_ <;> intro h|(with_reducible apply And.intro)|exact aG|fail)
  all_goals try (exfalso;omega)
  all_goals try (refine dP ?_;exact⟨d,[],0,_,rfl,hd,by simp⟩)
  all_goals (
   (refine gW (tape36' d.seed rd vn p d.drawn dr (by omega) (by omega) (by omega) (by omega)) ?_;rintro _ ⟨u,b,rfl,hu⟩ <;> refine⟨rfl,?_⟩)
   repeat' (first|refine gA htk ?_|refine sp ?_ ?_ <;> intro h|(with_reducible apply And.intro)|exact aG|fail)
   refine dP ?_
   refine⟨⟨d.seed,d.drawn+dr,d.begun.take k++⟨rd,vn,p,d.drawn,dr⟩ :: d.begun.drop k⟩,u,b,0,?_,?_,hu⟩
   ·simp [eStart,I]
   ·have:=congrArg List.length (List.take_append_drop k d.begun);simp only[List.length_append,List.length_cons] at this ⊢;omega)
theorem end36 (d:PDisk) (n:Int) (hd:d.begun.length≤64):DoesP Tryz.prog 108 [vDisk d,I n] (fun r=>∃ d' e,r=.tu [vDisk d',I e]∧d'.begun.length≤64):=by
 refine⟨⟨_,d,1,rfl,hd⟩,wE Tryz.func108 fun cx hm0=>?_⟩
 repeat' (first|refine gS ?_|refine sp ?_ ?_ <;> intro h|(exfalso;omega)|(refine gW (valid36 d (by omega)) ?_;rintro _ ⟨b,rfl,hb⟩ <;> refine⟨rfl,?_⟩)|(with_reducible apply And.intro)|exact aG|fail)
 all_goals try (refine dP ?_;exact⟨d,_,rfl,hd⟩)
 (refine gW (find36 d n (by omega)) ?_;rintro _ ⟨i,rfl,hi1,hi2⟩ <;> refine⟨rfl,?_⟩)
 by_cases hi:0≤i
 ·obtain⟨k,rfl⟩:∃ j:Nat,i=j:=⟨i.toNat,by omega⟩
  have hk:k<d.begun.length:=by omega
  have hq:(d.begun.take k).length≤64∧(d.begun.drop (k+1)).length≤64:=by rw[List.length_take,List.length_drop];omega
  have htk:(d.begun.map eStart).take d.begun.length=d.begun.map eStart:=List.take_of_length_le (by simp)
  have w1:IntKind.i64.wrap ((k:Int)+1)=((k+1:Nat):Int):=by rw[IntWalk.i64_in _ (by omega)];omega
  have hl:(d.begun.take k++d.begun.drop (k+1)).length≤64:=by rw[List.length_append,List.length_take,List.length_drop];omega
  repeat' (first|simp (maxSteps:=9999999) only[↓GE,PQ,seval,w1,htk,hk,List.length_append,← List.map_take,← List.map_drop]|refine gS ?_|refine sp ?_ ?_ <;> intro h|(with_reducible apply And.intro)|exact aG|fail)
  all_goals try (exfalso;omega)
  refine dP ?_
  refine⟨⟨d.seed,d.drawn,d.begun.take k++d.begun.drop (k+1)⟩,0,?_,hl⟩
  simp [eStart,I]
 ·repeat' (first|refine gS ?_|refine sp ?_ ?_ <;> intro h|(with_reducible apply And.intro)|exact aG|fail)
  all_goals try (exfalso;omega)
  refine dP ?_
  exact⟨d,_,rfl,hd⟩
theorem resume36 (d:PDisk) (n:Int) (hd:d.begun.length≤64):DoesP Tryz.prog 113 [vDisk d,I n] (fun r=>∃ s u b e,r=.tu [vStart s,vTape u b,I e]∧u.length≤1000000):=by
 refine⟨⟨_,noStart,[],0,1,rfl,by simp⟩,wE Tryz.func113 fun cx hm0=>?_⟩
 repeat' (first|refine gS ?_|refine sp ?_ ?_ <;> intro h|(exfalso;omega)|(refine gW (valid36 d (by omega)) ?_;rintro _ ⟨b,rfl,hb⟩ <;> refine⟨rfl,?_⟩)|(with_reducible apply And.intro)|exact aG|fail)
 all_goals try (refine dP ?_;exact⟨noStart,[],0,_,rfl,by simp⟩)
 obtain⟨g1,g2,g3,g4⟩:=hb (by simp_all)
 (refine gW (find36 d n (by omega)) ?_;rintro _ ⟨i,rfl,hi1,hi2⟩ <;> refine⟨rfl,?_⟩)
 by_cases hi:0≤i
 ·obtain⟨k,rfl⟩:∃ j:Nat,i=j:=⟨i.toNat,by omega⟩
  have hk:k<d.begun.length:=by omega
  have hs0:=getD_map eStart [] noStart d.begun k hk
  obtain⟨q1,q2,q3,q4⟩:=g4 _ (mem_getD noStart d.begun k hk)
  generalize d.begun.getD k noStart=x at *
  repeat' (first|refine gC hs0 hk eStart.eq_1 ?_|refine sp ?_ ?_ <;> intro h|(exfalso;omega)|(refine gW (tape36' d.seed x.read x.version x.p x.fr x.draws (by omega) (by omega) (by omega) (by omega)) ?_;rintro _ ⟨u,b,rfl,hu⟩ <;> refine⟨rfl,?_⟩)|(with_reducible apply And.intro)|exact aG|fail)
  all_goals try (exfalso;omega)
  refine dP ?_
  exact⟨x,u,b,_,rfl,hu⟩
 ·repeat' (first|refine gS ?_|refine sp ?_ ?_ <;> intro h|(with_reducible apply And.intro)|exact aG|fail)
  all_goals try (exfalso;omega)
  refine dP ?_
  exact⟨noStart,[],0,_,rfl,by simp⟩
end Go.Proofs.YticdbambknflgaaGreat.Sim
end
section
namespace Go.Proofs.YticdbambknflgaaGreat.Sim
open Go
set_option maxRecDepth 100000
set_option maxHeartbeats 4000000
set_option linter.unusedVariables false
set_option linter.unusedSimpArgs false
attribute [local irreducible] Go Mean
def PinOK (p:PPins):Prop:=p.rows.length≤64∧p.kept.length≤16
theorem has39 (l:List Int) (n:Int) (hl:l.length≤1000000):Does Tryz.prog 144 [.d (dInts l),I n] [] (B (decide (n ∈ l))) [] []:=by
 refine wD Tryz.func144 fun cx hm0=>?_
 repeat' (first|refine gS ?_|refine sp ?_ ?_ <;> intro h|(with_reducible apply And.intro)|exact aG|fail)
 refine gl (κ:=Nat) hm0 (fun q_=>q_≤l.length∧∀ x ∈ l.take q_,x ≠ n) (fun q_=>[(0,.d (dInts l)),(1,I n),(5,I q_)]) (fun q_=>[]) (fun q_=>l.length-q_) [] [] (0) ?_
 rintro k hI
 try simp only at hI ⊢
 try have hI2:=hI.2
 by_cases hk:k<l.length
 ·have hs0:=getD_map eI [] 0 l k hk
  have ht:=take_succ_getD 0 l k hk
  have hm:=mem_getD 0 l k hk
  generalize l.getD k 0=x at *
  repeat' (first|refine gC hs0 hk eI.eq_1 ?_|refine sp ?_ ?_ <;> intro h|(with_reducible apply And.intro)|exact aG|fail)
  ·have hin:n ∈ l:=by simp_all
   exact rtF [] (decide_eq_true hin)
  ·refine⟨[],[],⟨k+1,hk,?_⟩,?_,aI⟩
   ·rw[ht];exact allA hI.2 (by assumption)
   ·exact aX
 ·have hall:=hI.2
  rw[List.take_of_length_le (by omega)] at hall
  have hno:¬ n ∈ l:=fun h=>hall n h rfl
  repeat' (first|refine gS ?_|refine sp ?_ ?_ <;> intro h|(with_reducible apply And.intro)|exact aG|fail)
  exact rtF [] (decide_eq_false hno)
theorem valid39 (p:PPins) (h1:p.rows.length≤1000000) (h2:p.kept.length≤1000000):DoesP Tryz.prog 124 [vPins p] (fun r=>∃ b,r=B b∧(b=true→PinOK p∧1≤p.kept.length)):=by
 refine⟨⟨_,false,rfl,by simp⟩,wE Tryz.func124 fun cx hm0=>?_⟩
 repeat' (first|refine gS ?_|refine sp ?_ ?_ <;> intro h|(with_reducible apply And.intro)|exact aG|fail)
 all_goals try (refine dP ?_;exact⟨_,rfl,by simp⟩)
 refine gl (κ:=Nat) hm0 (fun q_=>q_≤p.kept.length) (fun q_=>[(1,.bp 1 0 0),(3,I q_)]) (fun q_=>[(1,.box 0 [.d (dTwos p.rows),.d (dInts p.kept)])]) (fun q_=>p.kept.length-q_) [] [] (0) ?_
 rintro k hI
 try simp only at hI ⊢
 try have hI2:=hI.2
 by_cases hk:k<p.kept.length
 ·have hs0:=getD_map eI [] 0 p.kept k hk
  by_cases h0:k=0
  ·subst h0
   generalize p.kept.getD 0 0=x at *
   repeat' (first|refine gC hs0 hk eI.eq_1 ?_|refine sp ?_ ?_ <;> intro h|(with_reducible apply And.intro)|exact aG|fail)
   all_goals try (exfalso;omega)
   all_goals first|(refine dP ?_;exact⟨_,rfl,by simp⟩)|(exact⟨[],[],⟨(0+1),aI⟩,aX,aI⟩)
  ·obtain⟨k,rfl⟩:∃ j,k=j+1:=⟨k-1,by omega⟩
   have hs1:=getD_map eI [] 0 p.kept k (by omega)
   have w1:IntKind.i64.wrap (((k+1:Nat):Int)-1)=(k:Int):=by rw[IntWalk.i64_in _ (by omega)];omega
   have hk2:k<p.kept.length:=by omega
   generalize p.kept.getD k 0=y at *
   generalize p.kept.getD (k+1) 0=x at *
   repeat' (first|simp (maxSteps:=9999999) only[↓GE,PQ,seval,w1,hs0,hs1,hk,hk2,eI]|refine gS ?_|refine sp ?_ ?_ <;> intro h|(with_reducible apply And.intro)|exact aG|fail)
   all_goals try (exfalso;omega)
   all_goals first|(refine dP ?_;exact⟨_,rfl,by simp⟩)|(exact⟨[],[],⟨(k+1+1),aI⟩,aX,aI⟩)
 clear hI
 repeat' (first|refine gS ?_|refine sp ?_ ?_ <;> intro h|(with_reducible apply And.intro)|exact aG|fail)
 refine gl (κ:=Nat) hm0 (fun q_=>q_≤p.rows.length) (fun q_=>[(1,.bp 1 0 0),(4,I q_)]) (fun q_=>[(1,.box 0 [.d (dTwos p.rows),.d (dInts p.kept)])]) (fun q_=>p.rows.length-q_) [] [] (0) ?_
 rintro k hI
 try simp only at hI ⊢
 try have hI2:=hI.2
 by_cases hk:k<p.rows.length
 ·have hs0:=getD_map eTwo [] (0,0) p.rows k hk
  by_cases h0:k=0
  ·subst h0
   generalize p.rows.getD 0 (0,0)=x at *
   obtain⟨x1,x2⟩:=x
   repeat' (first|refine gC hs0 hk eTwo.eq_1 ?_|refine sp ?_ ?_ <;> intro h|refine gP (has39 p.kept x2 h2) ?_|(with_reducible apply And.intro)|exact aG|fail)
   all_goals try (exfalso;omega)
   all_goals first|(refine dP ?_;exact⟨_,rfl,by simp⟩)|(exact⟨[],[],⟨(0+1),aI⟩,aX,aI⟩)
  ·obtain⟨k,rfl⟩:∃ j,k=j+1:=⟨k-1,by omega⟩
   have hs1:=getD_map eTwo [] (0,0) p.rows k (by omega)
   have w1:IntKind.i64.wrap (((k+1:Nat):Int)-1)=(k:Int):=by rw[IntWalk.i64_in _ (by omega)];omega
   have hk2:k<p.rows.length:=by omega
   generalize p.rows.getD k (0,0)=y at *
   generalize p.rows.getD (k+1) (0,0)=x at *
   obtain⟨x1,x2⟩:=x
   obtain⟨y1,y2⟩:=y
   repeat' (first|simp (maxSteps:=9999999) only[↓GE,PQ,seval,w1,hs0,hs1,hk,hk2,eTwo]|refine gS ?_|refine sp ?_ ?_ <;> intro h|refine gP (has39 p.kept x2 h2) ?_|(with_reducible apply And.intro)|exact aG|fail)
   all_goals try (exfalso;omega)
   all_goals first|(refine dP ?_;exact⟨_,rfl,by simp⟩)|(exact⟨[],[],⟨(k+1+1),aI⟩,aX,aI⟩)
 ·repeat' (first|refine gS ?_|refine sp ?_ ?_ <;> intro h|(with_reducible apply And.intro)|exact aG|fail)
  refine dP ?_
  exact⟨_,rfl,fun _=>⟨⟨by omega,by omega⟩,by omega⟩⟩
theorem new39 (n:Int):DoesP Tryz.prog 78 [I n] (fun r=>∃ p e,r=.tu [vPins p,I e]∧PinOK p):=by
 refine⟨⟨_,⟨[],[]⟩,1,rfl,by simp [PinOK]⟩,wE Tryz.func78 fun cx hm0=>?_⟩
 repeat' (first|refine gS ?_|refine sp ?_ ?_ <;> intro h|(with_reducible apply And.intro)|exact aG|fail)
 all_goals first|(refine dP ?_;exact⟨⟨[],[]⟩,_,rfl,by simp [PinOK]⟩)|(refine dP ?_;exact⟨⟨[],[n]⟩,_,rfl,by simp [PinOK]⟩)
end Go.Proofs.YticdbambknflgaaGreat.Sim
end
section
namespace Go.Proofs.YticdbambknflgaaGreat.Sim
open Go
set_option maxRecDepth 100000
set_option maxHeartbeats 4000000
set_option linter.unusedVariables false
set_option linter.unusedSimpArgs false
attribute [local irreducible] Go Mean
theorem publish39 (p:PPins) (n:Int) (hp:PinOK p):DoesP Tryz.prog 102 [vPins p,I n] (fun r=>∃ p' e,r=.tu [vPins p',I e]∧PinOK p'):=by
 obtain⟨h1,h2⟩:=hp
 have hp:PinOK p:=⟨h1,h2⟩
 refine⟨⟨_,p,1,rfl,hp⟩,wE Tryz.func102 fun cx hm0=>?_⟩
 repeat' (first|refine gS ?_|refine sp ?_ ?_ <;> intro h|(with_reducible apply And.intro)|exact aG|fail)
 (refine gW (valid39 p (by omega) (by omega)) ?_;rintro _ ⟨b,rfl,hb⟩ <;> refine⟨rfl,?_⟩)
 cases b
 case false =>
  repeat' (first|refine gS ?_|refine sp ?_ ?_ <;> intro h|(with_reducible apply And.intro)|exact aG|fail)
  refine dP ?_
  exact⟨p,_,rfl,hp⟩
 obtain⟨h3,h4⟩:=hb rfl
 have hk:p.kept.length-1<p.kept.length:=by omega
 have hs0:=getD_map eI [] 0 p.kept (p.kept.length-1) hk
 have w1:IntKind.i64.wrap ((p.kept.length:Int)-1)=((p.kept.length-1:Nat):Int):=by rw[IntWalk.i64_in _ (by omega)];omega
 generalize p.kept.getD (p.kept.length-1) 0=x at *
 repeat' (first|refine gQ w1 hs0 hk eI.eq_1 ?_|refine sp ?_ ?_ <;> intro h|(with_reducible apply And.intro)|exact aG|fail)
 all_goals try (refine dP ?_;exact⟨p,_,rfl,hp⟩)
 refine dP ?_
 refine⟨⟨p.rows,p.kept++[n]⟩,0,?_,by simp only;omega,by simp only[List.length_append,List.length_singleton];omega⟩
 simp [eI,I]
theorem open39 (p:PPins) (n:Int) (hp:PinOK p):DoesP Tryz.prog 92 [vPins p,I n] (fun r=>∃ p' k e,r=.tu [vPins p',I k,I e]∧PinOK p'):=by
 obtain⟨h1,h2⟩:=hp
 have hp:PinOK p:=⟨h1,h2⟩
 refine⟨⟨_,p,0,1,rfl,hp⟩,wE Tryz.func92 fun cx hm0=>?_⟩
 repeat' (first|refine gS ?_|refine sp ?_ ?_ <;> intro h|(with_reducible apply And.intro)|exact aG|fail)
 (refine gW (valid39 p (by omega) (by omega)) ?_;rintro _ ⟨b,rfl,hb⟩ <;> refine⟨rfl,?_⟩)
 cases b
 case false =>
  repeat' (first|refine gS ?_|refine sp ?_ ?_ <;> intro h|(with_reducible apply And.intro)|exact aG|fail)
  refine dP ?_
  exact⟨p,_,_,rfl,hp⟩
 obtain⟨h3,h4⟩:=hb rfl
 have hkk:p.kept.length-1<p.kept.length:=by omega
 have hs9:=getD_map eI [] 0 p.kept (p.kept.length-1) hkk
 have w1:IntKind.i64.wrap ((p.kept.length:Int)-1)=((p.kept.length-1:Nat):Int):=by rw[IntWalk.i64_in _ (by omega)];omega
 generalize p.kept.getD (p.kept.length-1) 0=z at *
 repeat' (first|refine gS ?_|refine sp ?_ ?_ <;> intro h|(with_reducible apply And.intro)|exact aG|fail)
 all_goals try (refine dP ?_;exact⟨p,_,_,rfl,hp⟩)
 refine gl (κ:=Nat) hm0 (fun q_=>q_≤p.rows.length) (fun q_=>[(1,I n),(2,.bp 2 0 0),(4,.bp 4 0 0),(7,I q_)]) (fun q_=>[(2,.box 0 [.d (dTwos p.rows),.d (dInts p.kept)]),(4,.box 0 [.nl 2,.nl 1])]) (fun q_=>p.rows.length-q_) [] [] (0) ?_
 rintro k hI
 try simp only at hI ⊢
 try have hI2:=hI.2
 have hq:(p.rows.take k).length≤64∧(p.rows.drop k).length≤64:=by rw[List.length_take,List.length_drop];omega
 have htk:(p.rows.map eTwo).take p.rows.length=p.rows.map eTwo:=List.take_of_length_le (by simp)
 by_cases hk:k<p.rows.length
 ·have hs0:=getD_map eTwo [] (0,0) p.rows k hk
  generalize p.rows.getD k (0,0)=x at *
  obtain⟨x1,x2⟩:=x
  repeat' (first|simp (maxSteps:=9999999) only[↓GE,PQ,seval,w1,hs9,hkk,hs0,hk,htk,eTwo,eI,List.length_append,← List.map_take,← List.map_drop]|refine gS ?_|refine sp ?_ ?_ <;> intro h|(with_reducible apply And.intro)|exact aG|fail)
  all_goals try (exfalso;omega)
  all_goals try (refine dP ?_;exact⟨p,_,_,rfl,hp⟩)
  ·(exact⟨[],[],⟨(k+1),aI⟩,aX,aI⟩)
  all_goals (refine dP ?_;refine⟨⟨p.rows.take k++(n,z) :: p.rows.drop k,p.kept⟩,z,0,?_,by have:=congrArg List.length (List.take_append_drop k p.rows);simp only[List.length_append,List.length_cons] at this ⊢;omega,by simp only;omega⟩;simp [eTwo,I])
 ·repeat' (first|simp (maxSteps:=9999999) only[↓GE,PQ,seval,w1,hs9,hkk,hk,htk,eTwo,eI,List.length_append,← List.map_take,← List.map_drop]|refine gS ?_|refine sp ?_ ?_ <;> intro h|(with_reducible apply And.intro)|exact aG|fail)
  all_goals try (exfalso;omega)
  all_goals try (refine dP ?_;exact⟨p,_,_,rfl,hp⟩)
  all_goals (refine dP ?_;refine⟨⟨p.rows.take k++(n,z) :: p.rows.drop k,p.kept⟩,z,0,?_,by have:=congrArg List.length (List.take_append_drop k p.rows);simp only[List.length_append,List.length_cons] at this ⊢;omega,by simp only;omega⟩;simp [eTwo,I])
theorem close39 (p:PPins) (n:Int) (hp:PinOK p):DoesP Tryz.prog 107 [vPins p,I n] (fun r=>∃ p' e,r=.tu [vPins p',I e]∧PinOK p'):=by
 obtain⟨h1,h2⟩:=hp
 have hp:PinOK p:=⟨h1,h2⟩
 refine⟨⟨_,p,1,rfl,hp⟩,wE Tryz.func107 fun cx hm0=>?_⟩
 repeat' (first|refine gS ?_|refine sp ?_ ?_ <;> intro h|(exfalso;omega)|(refine gW (valid39 p (by omega) (by omega)) ?_;rintro _ ⟨b,rfl,hb⟩ <;> refine⟨rfl,?_⟩)|(with_reducible apply And.intro)|exact aG|fail)
 all_goals try (refine dP ?_;exact⟨p,_,rfl,hp⟩)
 refine gl (κ:=Nat) hm0 (fun q_=>q_≤p.rows.length) (fun q_=>[(1,I n),(2,.bp 2 0 0),(4,.bp 4 0 0),(6,I q_)]) (fun q_=>[(2,.box 0 [.d (dTwos p.rows),.d (dInts p.kept)]),(4,.box 0 [.nl 2,.nl 1])]) (fun q_=>p.rows.length-q_) [] [] (0) ?_
 rintro k hI
 try simp only at hI ⊢
 try have hI2:=hI.2
 by_cases hk:k<p.rows.length
 ·have hs0:=getD_map eTwo [] (0,0) p.rows k hk
  have hq:(p.rows.take k).length≤64∧(p.rows.drop (k+1)).length≤64:=by rw[List.length_take,List.length_drop];omega
  have htk:(p.rows.map eTwo).take p.rows.length=p.rows.map eTwo:=List.take_of_length_le (by simp)
  have w1:IntKind.i64.wrap ((k:Int)+1)=((k+1:Nat):Int):=by rw[IntWalk.i64_in _ (by omega)];omega
  have hl:(p.rows.take k++p.rows.drop (k+1)).length≤64:=by rw[List.length_append,List.length_take,List.length_drop];omega
  generalize p.rows.getD k (0,0)=x at *
  obtain⟨x1,x2⟩:=x
  repeat' (first|simp (maxSteps:=9999999) only[↓GE,PQ,seval,w1,hs0,hk,htk,eTwo,List.length_append,← List.map_take,← List.map_drop]|refine gS ?_|refine sp ?_ ?_ <;> intro h|(with_reducible apply And.intro)|exact aG|fail)
  all_goals try (exfalso;omega)
  ·refine dP ?_
   refine⟨⟨p.rows.take k++p.rows.drop (k+1),p.kept⟩,0,?_,hl,by simp only;omega⟩
   simp [eTwo,I]
  ·(exact⟨[],[],⟨(k+1),aI⟩,aX,aI⟩)
 ·repeat' (first|refine gS ?_|refine sp ?_ ?_ <;> intro h|(with_reducible apply And.intro)|exact aG|fail)
  refine dP ?_
  exact⟨p,_,rfl,hp⟩
end Go.Proofs.YticdbambknflgaaGreat.Sim
end
section
namespace Go.Proofs.YticdbambknflgaaGreat.Sim
open Go
set_option maxRecDepth 100000
set_option maxHeartbeats 4000000
set_option linter.unusedVariables false
set_option linter.unusedSimpArgs false
attribute [local irreducible] Go Mean
def noteR (r:PRd) (i j:Nat):PNote:=⟨1,r.read,i,j+1,r.h.num,(r.queries.getD i []).getD j [],[],0⟩
def notesU (r:PRd):Nat→List PNote
 |0=>[]
 |k+1=>notesU r k++(List.range (r.queries.getD k []).length).map (noteR r k)
def notesF (r:PRd):List PNote:=notesU r r.queries.length
theorem notesU_ok {r:PRd} (hr:RdOK r):∀ k,k≤r.queries.length→(notesU r k).length≤10*k∧∀ n ∈ notesU r k,n.query.length≤1024∧n.values=[]
 |0,_=>by simp [notesU]
 |k+1,hk=>by
  obtain⟨h1,h2⟩:=notesU_ok hr k (by omega)
  obtain⟨hy1,hy2⟩:=hr.qs _ (mem_getD [] r.queries k hk)
  have hs:=hr.sv
  refine⟨by simp only[notesU,List.length_append,List.length_map,List.length_range];omega,fun n hn=>?_⟩
  rcases List.mem_append.1 hn with hn|hn
  ·exact h2 n hn
  ·obtain⟨j,hj,rfl⟩:=List.mem_map.1 hn
   exact⟨hy2 _ (mem_getD [] _ j (List.mem_range.1 hj)),rfl⟩
theorem notesF_ok {r:PRd} (hr:RdOK r):(notesF r).length≤160∧∀ n ∈ notesF r,n.query.length≤1024∧n.values=[]:=by
 obtain⟨h1,h2⟩:=notesU_ok hr r.queries.length (Nat.le_refl _)
 have:=hr.nq
 exact⟨by unfold notesF;omega,h2⟩
theorem notes32 (r:PRd) (hr:RdOK r):Does Tryz.prog 97 [vRd r] [] (.d (dNotes (notesF r))) [] []:=by
 have h1:=hr.sv
 have h3:=hr.nq
 refine doesD ⟨⟨_,rfl⟩,wE Tryz.func97 fun cx hm0=>?_⟩
 repeat' (first|refine gS ?_|refine sp ?_ ?_ <;> intro h|(with_reducible apply And.intro)|exact aG|fail)
 refine gl (κ:=Nat × Nat) hm0 (fun q_=>q_.1≤r.queries.length) (fun q_=>[(1,.bp 1 0 0),(3,.og 44 q_.2),(4,I q_.1)]) (fun q_=>[(1,.box 0 [I r.read,I r.s.kind,I r.s.sv,I r.s.deg,I r.s.grp,I r.h.num,I r.h.p,I r.h.count,I r.h.width,I r.h.root,.d (dInts r.rows),.d (dQs r.queries),.d (dAnss r.answers),.d (dRows r.marks),B r.ended]),(44,.arr q_.2 8 true ((notesU r q_.1).map eNote))]) (fun q_=>r.queries.length-q_.1) [] [44] (0,0) ?_
 rintro⟨k,v⟩ hI
 try simp only at hI ⊢
 try have hI2:=hI.2
 by_cases hk:k<r.queries.length
 ·have hs0:=getD_map eQ [] [] r.queries k hk
  obtain⟨hy1,hy2⟩:=hr.qs _ (mem_getD [] r.queries k hk)
  have hle:=(notesU_ok hr k (by omega)).1
  have hsu:notesU r (k+1)=notesU r k++(List.range (r.queries.getD k []).length).map (noteR r k):=rfl
  have hnr:∀ j,noteR r k j=⟨1,r.read,k,j+1,r.h.num,(r.queries.getD k []).getD j [],[],0⟩:=fun _=>rfl
  generalize r.queries.getD k []=y at *
  generalize notesU r k=o at *
  repeat' (first|simp (maxSteps:=9999999) only[↓GE,PQ,seval,hs0,hk,eQ]|refine gS ?_|refine sp ?_ ?_ <;> intro h|(with_reducible apply And.intro)|exact aG|fail)
  refine gl (κ:=Nat × Nat) hm0 (fun q_=>q_.1≤y.length) (fun q_=>[(1,.bp 1 0 0),(3,.og 44 q_.2),(4,I k),(5,I q_.1)]) (fun q_=>[(1,.box 0 [I r.read,I r.s.kind,I r.s.sv,I r.s.deg,I r.s.grp,I r.h.num,I r.h.p,I r.h.count,I r.h.width,I r.h.root,.d (dInts r.rows),.d (dQs r.queries),.d (dAnss r.answers),.d (dRows r.marks),B r.ended]),(44,.arr q_.2 8 true ((o++(List.range q_.1).map (noteR r k)).map eNote))]) (fun q_=>y.length-q_.1) [] [] (0,v) ?_ (h0:=(by simp only[GeZ];(simp only[GeS];refine⟨?_,?_,?_,?_⟩;all_goals (repeat' (first|(with_reducible exact True.intro)|(with_reducible rfl)|simp only[XC,↓reduceIte,seval]|(with_reducible apply And.intro)|(refine⟨_,rfl,?_⟩)|(simp [List.map_set,eI,List.range_zero,List.map_nil,List.append_nil];done)|exact aS|fail)))))
  rintro⟨j,v⟩ hI
  try simp only at hI ⊢
  try have hI2:=hI.2
  by_cases hj:j<y.length
  ·have hs1:=getD_map eR [] [] y j hj
   have hx:=hy2 _ (mem_getD [] y j hj)
   have hnj:=hnr j
   generalize y.getD j []=x at *
   repeat' (first|simp (maxSteps:=9999999) only[↓GE,PQ,seval,hs0,hs1,hk,hj,eQ,eR,List.length_append,List.length_range]|refine gS ?_|refine sp ?_ ?_ <;> intro h|(with_reducible apply And.intro)|exact aG|fail)
   refine⟨[],[],⟨(j+1,v+1),by omega⟩,?_,aI⟩
   simp only[GeZ];(simp only[GeS];refine⟨?_,?_,?_,?_⟩;all_goals (repeat' (first|(with_reducible exact True.intro)|(with_reducible rfl)|simp only[XC,↓reduceIte,seval]|(with_reducible apply And.intro)|(refine⟨_,rfl,?_⟩)|(simp [eNote,List.range_succ,hnj,List.map_append,List.map_cons,List.map_nil,List.append_assoc];done)|exact aS|fail)))
  ·obtain rfl:j=y.length:=by omega
   repeat' (first|simp (maxSteps:=9999999) only[↓GE,PQ,seval,hs0,hk,eQ]|refine gS ?_|refine sp ?_ ?_ <;> intro h|(with_reducible apply And.intro)|exact aG|fail)
   refine⟨[],[],⟨(k+1,v),by omega⟩,?_,aI⟩
   rw[← hsu]
   exact aX
 ·obtain rfl:k=r.queries.length:=by omega
  repeat' (first|refine gS ?_|refine sp ?_ ?_ <;> intro h|(with_reducible apply And.intro)|exact aG|fail)
  refine dP ?_
  rfl
end Go.Proofs.YticdbambknflgaaGreat.Sim
end
section
namespace Go.Proofs.YticdbambknflgaaGreat.Sim
open Go
set_option maxRecDepth 100000
set_option maxHeartbeats 4000000
set_option linter.unusedVariables false
set_option linter.unusedSimpArgs false
attribute [local irreducible] Go Mean
theorem collect33 (r:PRd) (l:List POut) (hr:RdOK r) (hl:l.length≤16) (hw:∀ x ∈ l,x.wrong.length≤1002):DoesP Tryz.prog 105 [vRd r,.d (dOuts l)] (fun x=>∃ o,x=.d (dNotes o)∧o.length≤20000∧∀ n ∈ o,n.query.length≤1024∧n.values.length≤64):=by
 have h1:=hr.sv
 have h3:=hr.nq
 have h4:=hr.na
 have h5:=hr.nm
 refine⟨⟨_,[],rfl,by simp,by simp⟩,wE Tryz.func105 fun cx hm0=>?_⟩
 repeat' (first|refine gS ?_|refine sp ?_ ?_ <;> intro h|(with_reducible apply And.intro)|exact aG|fail)
 refine gl (κ:=Nat × Nat × (List PNote)) hm0 (fun q_=>(q_.1≤l.length∧q_.2.2.length≤1002*q_.1)∧∀ n ∈ q_.2.2,n.query.length≤1024∧n.values.length≤64) (fun q_=>[(1,.d (dOuts l)),(2,.bp 2 0 0),(5,.og 108 q_.2.1),(6,I q_.1)]) (fun q_=>[(2,.box 0 [I r.read,I r.s.kind,I r.s.sv,I r.s.deg,I r.s.grp,I r.h.num,I r.h.p,I r.h.count,I r.h.width,I r.h.root,.d (dInts r.rows),.d (dQs r.queries),.d (dAnss r.answers),.d (dRows r.marks),B r.ended]),(108,.arr q_.2.1 8 true (q_.2.2.map eNote))]) (fun q_=>l.length-q_.1) [] [108] (0,0,[]) ?_
 rintro⟨k,v,o⟩ hI
 try simp only at hI ⊢
 try have hI2:=hI.2
 by_cases hk:k<l.length
 case neg =>
  repeat' (first|refine gS ?_|refine sp ?_ ?_ <;> intro h|(with_reducible apply And.intro)|exact aG|fail)
  refine dP ?_
  exact⟨o,rfl,by omega,hI.2⟩
 by_cases hkq:k<r.queries.length
 case neg =>
  repeat' (first|refine gS ?_|refine sp ?_ ?_ <;> intro h|(with_reducible apply And.intro)|exact aG|fail)
  all_goals try (exfalso;omega)
  refine dP ?_
  exact⟨o,rfl,by omega,hI.2⟩
 have hs0:=getD_map eOut [] noOut l k hk
 have hwl:=hw _ (mem_getD noOut l k hk)
 have hsq:=getD_map eQ [] [] r.queries k hkq
 have hsa:=getD_map eAnss [] [] r.answers k (by omega)
 have hsm:=getD_map eR [] [] r.marks k (by omega)
 obtain⟨q1,q2⟩:=hr.qs _ (mem_getD [] r.queries k hkq)
 obtain⟨a1,a2⟩:=hr.ans _ (mem_getD [] r.answers k (by omega))
 have m1:=hr.ms _ (mem_getD [] r.marks k (by omega))
 have hka:k<r.answers.length:=by omega
 have hkm:k<r.marks.length:=by omega
 generalize l.getD k noOut=x at *
 generalize r.queries.getD k []=qs at *
 generalize r.answers.getD k []=ans at *
 generalize r.marks.getD k []=ms at *
 obtain⟨xc,xr,xw⟩:=x
 simp only at hwl
 repeat' (first|refine gC hs0 hk eOut.eq_1 ?_|refine sp ?_ ?_ <;> intro h|(with_reducible apply And.intro)|exact aG|fail)
 all_goals try (exfalso;omega)
 refine gl (κ:=Nat × Nat × (List PNote)) hm0 (fun q_=>(q_.1≤xw.length∧q_.2.2.length≤1002*k+q_.1)∧∀ n ∈ q_.2.2,n.query.length≤1024∧n.values.length≤64) (fun q_=>[(1,.d (dOuts l)),(2,.bp 2 0 0),(5,.og 108 q_.2.1),(6,I k),(7,I q_.1)]) (fun q_=>[(2,.box 0 [I r.read,I r.s.kind,I r.s.sv,I r.s.deg,I r.s.grp,I r.h.num,I r.h.p,I r.h.count,I r.h.width,I r.h.root,.d (dInts r.rows),.d (dQs r.queries),.d (dAnss r.answers),.d (dRows r.marks),B r.ended]),(108,.arr q_.2.1 8 true (q_.2.2.map eNote))]) (fun q_=>xw.length-q_.1) [] [] (0,v,o) ?_
 rintro⟨j,v,o⟩ hI
 try simp only at hI ⊢
 try have hI2:=hI.2
 by_cases hj:j<xw.length
 ·have hs1:=getD_map eI [] 0 xw j hj
  generalize xw.getD j 0=s at *
  by_cases hs:1≤s∧s≤ans.length
  case neg =>
   repeat' (first|simp (maxSteps:=9999999) only[↓GE,PQ,seval,hs0,hs1,hk,hj,hsa,hka,eOut,eI,eAnss]|refine gS ?_|refine sp ?_ ?_ <;> intro h|(with_reducible apply And.intro)|exact aG|fail)
   all_goals try (exfalso;omega)
   all_goals (exact⟨[],[],⟨(j+1,v,o),aI⟩,aX,aI⟩)
  obtain⟨u,rfl⟩:∃ u:Nat,s=((u+1:Nat):Int):=⟨(s-1).toNat,by omega⟩
  have hu1:u<ans.length:=by omega
  have hu2:u<qs.length:=by omega
  have hu3:u<ms.length:=by omega
  have w1:IntKind.i64.wrap (((u+1:Nat):Int)-1)=(u:Int):=by rw[IntWalk.i64_in _ (by omega)];omega
  have w2:((u+1:Nat):Int)-1=(u:Int):=by omega
  have t1:=getD_map eAns [] noAns ans u hu1
  have t2:=getD_map eR [] [] qs u hu2
  have t3:=getD_map eI [] 0 ms u hu3
  have b1:=a2 _ (mem_getD noAns ans u hu1)
  have b2:=q2 _ (mem_getD [] qs u hu2)
  generalize ans.getD u noAns=an at *
  generalize qs.getD u []=qq at *
  generalize ms.getD u 0=mm at *
  obtain⟨ak,ar⟩:=an
  simp only at b1
  cases ak with
  |false =>
   repeat' (first|simp (maxSteps:=9999999) only[↓GE,PQ,seval,hs0,hs1,hk,hj,hsa,hka,t1,w1,w2,hu1,eOut,eI,eAnss,eAns]|refine gS ?_|refine sp ?_ ?_ <;> intro h|(with_reducible apply And.intro)|exact aG|fail)
   all_goals try (exfalso;omega)
   all_goals (exact⟨[],[],⟨(j+1,v,o),aI⟩,aX,aI⟩)
  |true =>
   repeat' (first|simp (maxSteps:=9999999) only[↓GE,PQ,seval,hs0,hs1,hk,hj,hsa,hsq,hsm,hka,hkq,hkm,t1,t2,t3,w1,w2,hu1,hu2,hu3,eOut,eI,eQ,eR,eAnss,eAns]|refine gS ?_|refine sp ?_ ?_ <;> intro h|(with_reducible apply And.intro)|exact aG|fail)
   all_goals try (exfalso;omega)
   refine⟨[],[],⟨(j+1,v+1,o++[⟨2,r.read,k,u+1,r.h.num,qq,ar,mm⟩]),⟨⟨by omega,by simp only[List.length_append,List.length_singleton];omega⟩,allA hI.2 ⟨b2,b1⟩⟩⟩,?_,aI⟩
   exact aY (And.intro eNote.eq_1 eR.eq_1)
 ·repeat' (first|refine gC hs0 hk eOut.eq_1 ?_|refine sp ?_ ?_ <;> intro h|(with_reducible apply And.intro)|exact aG|fail)
  refine⟨[],[],⟨(k+1,v,o),⟨⟨by omega,by simp only;omega⟩,hI.2⟩⟩,?_,aI⟩
  exact aX
end Go.Proofs.YticdbambknflgaaGreat.Sim
end
section
namespace Go.Proofs.YticdbambknflgaaGreat.Sim
open Go
set_option maxRecDepth 100000
set_option maxHeartbeats 4000000
set_option linter.unusedVariables false
set_option linter.unusedSimpArgs false
attribute [local irreducible] Go Mean
theorem ask30 {s:PSch} {id:Int} (v:PSrv) (n:PNote) (hv:SrvOK s id v) (hnq:n.query.length≤1000000):DoesP Tryz.prog 129 [vSrv v,vNote n] (fun r=>∃ v' e,r=.tu [vSrv v',I e]∧SrvOK s id v'):=by
 have hnv:=hv.nv
 have hnj:=hv.nj
 have e3:=find30 v n.version (by omega)
 have hb:=findI_bd v.vers n.version
 have hf:=findI_lt (l:=v.vers) (n:=n.version)
 refine⟨⟨_,v,1,rfl,hv⟩,wE Tryz.func129 fun cx hm0=>?_⟩
 generalize findI v.vers n.version=i at *
 by_cases hi:0≤i
 case neg =>
  repeat' (first|refine gS ?_|refine sp ?_ ?_ <;> intro h|refine gP e3 ?_|(with_reducible apply And.intro)|exact aG|fail)
  all_goals (refine dP ?_;exact⟨v,_,rfl,hv⟩)
 obtain⟨i,rfl⟩:∃ j:Nat,i=j:=⟨i.toNat,by omega⟩
 obtain⟨hf1,hf2,hf3⟩:=hf (by omega)
 simp only[Int.toNat_natCast] at hf1 hf2 hf3
 have hh:=hv.vers _ (mem_getD noHeld v.vers i hf1)
 have hs1:=getD_map eHeld [] noHeld v.vers i hf1
 generalize v.vers.getD i noHeld=h0 at *
 have hr0:=hh.nr
 repeat' (first|refine gC hs1 hf1 eHeld.eq_1 ?_|refine sp ?_ ?_ <;> intro h|refine gP e3 ?_|(with_reducible apply And.intro)|exact aG|fail)
 all_goals try (refine dP ?_;exact⟨v,_,rfl,hv⟩)
 have hql:n.query.length=h0.rows.length:=by simp at *;omega
 refine gl (κ:=Nat) hm0 (fun q_=>q_≤n.query.length∧(n.query.take q_).all (inE h0.hd.p)=true) (fun q_=>[(2,.bp 2 0 0),(3,.bp 3 0 0),(4,.bp 4 0 0),(6,I i),(7,I q_)]) (fun q_=>[(2,.box 0 [I v.id,I v.s.kind,I v.s.sv,I v.s.deg,I v.s.grp,B v.up,.d (dHelds v.vers),.d (dJobs v.jobs)]),(3,.box 0 [I n.kind,I n.read,I n.probe,I n.server,I n.version,.d (dInts n.query),.d (dInts n.values),I n.mark]),(4,.box 0 [I 0,I 0,I 0,I 0,I 0,B false,.nl 6,.nl 5])]) (fun q_=>n.query.length-q_) [] [] (0) ?_ (h0:=(aY hql))
 rintro k hI
 try simp only at hI ⊢
 try have hI2:=hI.2
 by_cases hk:k<n.query.length
 ·have hs0:=getD_map eI [] 0 n.query k hk
  have ht:=take_succ_getD 0 n.query k hk
  generalize n.query.getD k 0=x at *
  repeat' (first|simp (maxSteps:=9999999) only[↓GE,PQ,seval,hs0,hs1,hf1,hk,eI,eHeld]|refine gS ?_|refine sp ?_ ?_ <;> intro h|(with_reducible apply And.intro)|exact aG|fail)
  all_goals try (refine dP ?_;exact⟨v,_,rfl,hv⟩)
  refine⟨[],[],⟨k+1,hk,?_⟩,?_,aI⟩
  ·rw[ht,List.all_append,hI.2]
   simp [inE]
   omega
  ·exact aX
 have hqa:=hI.2
 rw[List.take_of_length_le (by omega)] at hqa
 clear hI
 repeat' (first|refine gS ?_|refine sp ?_ ?_ <;> intro h|(with_reducible apply And.intro)|exact aG|fail)
 all_goals try (refine dP ?_;exact⟨v,_,rfl,hv⟩)
 refine gl (κ:=Nat) hm0 (fun q_=>q_≤v.jobs.length) (fun q_=>[(2,.bp 2 0 0),(3,.bp 3 0 0),(4,.bp 4 0 0),(8,I q_)]) (fun q_=>[(2,.box 0 [I v.id,I v.s.kind,I v.s.sv,I v.s.deg,I v.s.grp,B v.up,.d (dHelds v.vers),.d (dJobs v.jobs)]),(3,.box 0 [I n.kind,I n.read,I n.probe,I n.server,I n.version,.d (dInts n.query),.d (dInts n.values),I n.mark]),(4,.box 0 [I 0,I 0,I 0,I 0,I 0,B false,.nl 6,.nl 5])]) (fun q_=>v.jobs.length-q_) [] [] (0) ?_
 rintro k hI
 try simp only at hI ⊢
 try have hI2:=hI.2
 by_cases hk:k<v.jobs.length
 ·have hs0:=getD_map eJob [] noJob v.jobs k hk
  generalize v.jobs.getD k noJob=x at *
  repeat' (first|refine gC hs0 hk eJob.eq_1 ?_|refine sp ?_ ?_ <;> intro h|(with_reducible apply And.intro)|exact aG|fail)
  all_goals first|(refine dP ?_;exact⟨v,_,rfl,hv⟩)|(exact⟨[],[],⟨(k+1),aI⟩,aX,aI⟩)
 ·have hw:=hh.w1
  repeat' (first|simp (maxSteps:=9999999) only[↓GE,PQ,seval,List.length_append]|refine gS ?_|refine sp ?_ ?_ <;> intro h|(with_reducible apply And.intro)|exact aG|fail)
  all_goals try (refine dP ?_;exact⟨v,_,rfl,hv⟩)
  have hj:SrvOK s id { v with jobs:=v.jobs++[⟨n.read,n.probe,n.version,n.query,[]⟩] }:=⟨hv.id,hv.s,hv.nv,by simp only[List.length_append,List.length_cons,List.length_nil];omega,hv.vers,allA hv.jobs ⟨h0,hf3,hql,hqa,by simp only[List.length_nil];omega⟩⟩
  refine dP ?_
  refine⟨_,0,?_,hj⟩
  simp [eJob,eI,I,B]
end Go.Proofs.YticdbambknflgaaGreat.Sim
end
section
namespace Go.Proofs.YticdbambknflgaaGreat.Sim
open Go
set_option maxRecDepth 100000
set_option maxHeartbeats 4000000
set_option linter.unusedVariables false
set_option linter.unusedSimpArgs false
attribute [local irreducible] Go Mean
noncomputable def namedF (p:PPins) (n:Int):Int:=(p.rows.countP fun x=>x.2 == n:Nat)
theorem countP_take_succ {α:Type} (f:α→Bool) (d:α) (l:List α) (k:Nat) (hk:k<l.length):(l.take (k+1)).countP f=(l.take k).countP f+if f (l.getD k d)=true then 1 else 0:=by
 rw[take_succ_getD d l k hk,List.countP_append,List.countP_singleton]
theorem named39 (p:PPins) (n:Int) (hp:p.rows.length≤1000000):Does Tryz.prog 138 [vPins p,I n] [] (I (namedF p n)) [] []:=by
 refine wD Tryz.func138 fun cx hm0=>?_
 repeat' (first|refine gS ?_|refine sp ?_ ?_ <;> intro h|(with_reducible apply And.intro)|exact aG|fail)
 refine gl (κ:=Nat × Nat) hm0 (fun q_=>(q_.1≤p.rows.length∧q_.2≤q_.1)∧q_.2=(p.rows.take q_.1).countP fun x=>x.2 == n) (fun q_=>[(1,I n),(2,.bp 2 0 0),(5,I q_.2),(6,I q_.1)]) (fun q_=>[(2,.box 0 [.d (dTwos p.rows),.d (dInts p.kept)])]) (fun q_=>p.rows.length-q_.1) [] [] (0,0) ?_
 rintro⟨k,c⟩ hI
 try simp only at hI ⊢
 try have hI2:=hI.2
 by_cases hk:k<p.rows.length
 ·have hs0:=getD_map eTwo [] (0,0) p.rows k hk
  have ht:=countP_take_succ (fun x:Int × Int=>x.2 == n) (0,0) p.rows k hk
  generalize p.rows.getD k (0,0)=x at *
  obtain⟨x1,x2⟩:=x
  by_cases hx:x2=n
  ·subst hx
   rw[if_pos (by simp)] at ht
   have hr1:(x2 == x2)=true:=by simp
   repeat' (first|refine gQ hs0 hk hr1 eTwo.eq_1 ?_|refine sp ?_ ?_ <;> intro h|(with_reducible apply And.intro)|exact aG|fail)
   all_goals try (exfalso;omega)
   refine⟨[],[],⟨(k+1,c+1),⟨aI,by simp only;rw[ht,hI.2]⟩⟩,?_,aI⟩
   exact aX
  ·rw[if_neg (by simpa using hx)] at ht
   have hr1:(x2 == n)=false:=by simpa using hx
   repeat' (first|refine gQ hs0 hk hr1 eTwo.eq_1 ?_|refine sp ?_ ?_ <;> intro h|(with_reducible apply And.intro)|exact aG|fail)
   all_goals try (exfalso;omega)
   refine⟨[],[],⟨(k+1,c),⟨aI,by simp only;rw[ht,hI.2,Nat.add_zero]⟩⟩,?_,aI⟩
   exact aX
 ·have hc:=hI.2
  rw[List.take_of_length_le (by omega)] at hc
  have hv:namedF p n=c:=by rw[namedF,hc]
  repeat' (first|refine gS ?_|refine sp ?_ ?_ <;> intro h|(with_reducible apply And.intro)|exact aG|fail)
  exact rtF [] hv
theorem collect39 (p:PPins) (hp:PinOK p):DoesP Tryz.prog 110 [vPins p] (fun r=>∃ p' g,r=.tu [vPins p',.d (dInts g)]∧PinOK p'):=by
 obtain⟨h1,h2⟩:=hp
 have hp:PinOK p:=⟨h1,h2⟩
 refine⟨⟨_,p,[],rfl,hp⟩,wE Tryz.func110 fun cx hm0=>?_⟩
 repeat' (first|refine gS ?_|refine sp ?_ ?_ <;> intro h|(with_reducible apply And.intro)|exact aG|fail)
 refine gl (κ:=Nat × Nat × Nat × (List Int) × (List Int)) hm0 (fun q_=>q_.1≤p.kept.length∧q_.2.2.2.1.length≤q_.1∧q_.2.2.2.2.length≤q_.1) (fun q_=>[(1,.bp 1 0 0),(2,.bp 2 0 0),(4,.og 37 q_.2.1),(5,.og 45 q_.2.2.1),(6,I q_.1)]) (fun q_=>[(1,.box 0 [.d (dTwos p.rows),.d (dInts p.kept)]),(2,.box 0 [.nl 2,.nl 1]),(37,.arr q_.2.1 1 true (q_.2.2.2.1.map eI)),(45,.arr q_.2.2.1 1 true (q_.2.2.2.2.map eI))]) (fun q_=>p.kept.length-q_.1) [] [37,45] (0,0,0,[],[]) ?_
 rintro⟨k,v,w,a,b⟩ hI
 try simp only at hI ⊢
 try have hI2:=hI.2
 by_cases hk:k<p.kept.length
 ·have hs0:=getD_map eI [] 0 p.kept k hk
  generalize p.kept.getD k 0=x at *
  have e1:=named39 p x (by omega)
  generalize namedF p x=y at *
  repeat' (first|refine gC hs0 hk eI.eq_1 ?_|refine sp ?_ ?_ <;> intro h|refine gP e1 ?_|(with_reducible apply And.intro)|exact aG|fail)
  all_goals try (exfalso;omega)
  all_goals first|((exact⟨[],[],⟨(k+1,v+1,w,a++[x],b),aI⟩,aX,aI⟩);done)|((exact⟨[],[],⟨(k+1,v,w+1,a,b++[x]),aI⟩,aX,aI⟩);done)
 ·repeat' (first|refine gS ?_|refine sp ?_ ?_ <;> intro h|(with_reducible apply And.intro)|exact aG|fail)
  refine dP ?_
  exact⟨⟨p.rows,a⟩,b,rfl,by simp only;omega,by simp only;omega⟩
end Go.Proofs.YticdbambknflgaaGreat.Sim
end
section
namespace Go.Proofs.YticdbambknflgaaGreat.Sim
open Go
set_option maxRecDepth 100000
set_option maxHeartbeats 4000000
set_option linter.unusedVariables false
set_option linter.unusedSimpArgs false
attribute [local irreducible] Go Mean
theorem check33 (pp:List (Int × Int)) (s:PSch) (t:PTab) (n:PNote) (hpp:pp.length≤1000) (hl:t.rows.length≤1000000) (hs:∀ x ∈ t.rows,x.length≤1000000) (hq:n.query.length≤100000) (hv:n.values.length≤100000):DoesP Tryz.prog 106 [.d (dTwos pp),vSch s,vTab t,vNote n] (fun r=>∃ e,r=I e):=by
 have e1:=valid23 s t.p
 have e2:=r14check t (by omega) (fun x hx=>by have:=hs x hx;omega)
 have e3:=numbers30 n (by omega) (by omega)
 have hnl2:(numN n).length≤1000000:=by simp [numN];omega
 refine⟨⟨_,0,rfl⟩,wE Tryz.func106 fun cx hm0=>?_⟩
 by_cases hc:checkT t=0
 case neg =>
  have hc':(checkT t != 0)=true:=by simpa using hc
  repeat' (first|refine gA hc' ?_|refine sp ?_ ?_ <;> intro h|refine gP e1 ?_|refine gP e2 ?_|(with_reducible apply And.intro)|exact aG|fail)
  all_goals (refine dP ?_;exact⟨_,rfl⟩)
 obtain⟨h1,h2,h3,h4,h5,h6,h7⟩:=checkT_ok hc
 cases hvl:vldB s t.p with
 |false =>
  repeat' (first|refine gB hvl hc ?_|refine sp ?_ ?_ <;> intro h|refine gP e1 ?_|refine gP e2 ?_|(with_reducible apply And.intro)|exact aG|fail)
  all_goals (refine dP ?_;exact⟨_,rfl⟩)
 |true =>
  repeat' (first|refine gB hvl hc ?_|refine sp ?_ ?_ <;> intro h|(exfalso;omega)|refine gP e1 ?_|refine gP e2 ?_|refine gP e3 ?_|(refine gW (verify22 pp n.server (numN n) n.mark hpp hnl2) ?_;rintro _ ⟨b,rfl⟩ <;> refine⟨rfl,?_⟩)|(refine gW (hold23 s t n.server hl hs) ?_;rintro _ ⟨rows,e,rfl,hr1,hr2⟩ <;> refine⟨rfl,?_⟩)|(with_reducible apply And.intro)|exact aG|fail)
  all_goals try (refine dP ?_;exact⟨_,rfl⟩)
  refine gl (κ:=Nat) hm0 (fun q_=>q_≤n.query.length) (fun q_=>[(6,.bp 6 0 0),(9,.bp 9 0 0),(11,.d (dRows rows)),(13,I q_)]) (fun q_=>[(6,.box 0 [I t.num,I t.p,I t.width,.d (dRows t.rows)]),(9,.box 0 [I n.kind,I n.read,I n.probe,I n.server,I n.version,.d (dInts n.query),.d (dInts n.values),I n.mark])]) (fun q_=>n.query.length-q_) [] [] (0) ?_
  rintro k hI
  try simp only at hI ⊢
  try have hI2:=hI.2
  by_cases hk:k<n.query.length
  ·have hs0:=getD_map eI [] 0 n.query k hk
   generalize n.query.getD k 0=x at *
   repeat' (first|refine gC hs0 hk eI.eq_1 ?_|refine sp ?_ ?_ <;> intro h|(with_reducible apply And.intro)|exact aG|fail)
   all_goals first|(refine dP ?_;exact⟨_,rfl⟩)|(exact⟨[],[],⟨(k+1),aI⟩,aX,aI⟩)
  ·repeat' (first|refine gS ?_|refine sp ?_ ?_ <;> intro h|(exfalso;omega)|(refine gW (answer23 t.p t.width n.query rows (by omega) (by omega) (fun x hx=>by have:=(hr2 x hx).1;omega)) ?_;rintro _ ⟨l,e,rfl,hl2,he⟩ <;> refine⟨rfl,?_⟩)|(with_reducible apply And.intro)|exact aG|fail)
   have e9:=ints31 l n.values (by omega) (by omega)
   repeat' (first|refine gS ?_|refine sp ?_ ?_ <;> intro h|refine gP e9 ?_|(with_reducible apply And.intro)|exact aG|fail)
   all_goals (refine dP ?_;exact⟨_,rfl⟩)
end Go.Proofs.YticdbambknflgaaGreat.Sim
end
section
namespace Go.Proofs.YticdbambknflgaaGreat.Sim
open Go
set_option maxRecDepth 100000
set_option maxHeartbeats 4000000
set_option linter.unusedVariables false
set_option linter.unusedSimpArgs false
attribute [local irreducible] Go Mean
structure WOK (w:PWorld) (n:Nat):Prop where
 s3:3≤w.s.sv
 s6:w.s.sv≤6
 pp:w.people.length≤1000
 pub:PubOK w.tabs n
 ns:(w.srv.length:Int)=w.s.sv
 srv:∀ k,k<w.srv.length→SrvOK w.s (k+1:Nat) (w.srv.getD k noSrv)
 fl:w.flight.length≤256
 nt:∀ x ∈ w.flight,x.query.length≤1025∧x.values.length≤64
 nr:w.rd.length≤64
 rd:∀ r ∈ w.rd,RdOK r
 dk:w.disk.begun.length≤64
 pin:PinOK w.pins
 li:w.liars.length=w.srv.length
 re:w.results.length≤n
theorem PubOK.mono {ts:List PTab} {n m:Nat} (h:PubOK ts n) (hm:n≤m):PubOK ts m:=⟨h.valid,by have:=h.len;omega,fun t ht=>(h.tabs t ht).mono hm⟩
theorem PubOK.ok {ts:List PTab} {n:Nat} (h:PubOK ts n) (hn:n≤100):OkTs ts:=⟨by have:=h.valid.2.1;omega,fun t ht=>okT_check ((h.tabs t ht).check hn)⟩
theorem WOK.mono {w:PWorld} {n m:Nat} (h:WOK w n) (hm:n≤m):WOK w m:={ h with pub:=h.pub.mono hm,re:=by have:=h.re;omega }
theorem WOK.nsrv {w:PWorld} {n:Nat} (h:WOK w n):w.srv.length≤6:=by have:=h.ns;have:=h.s6;omega
theorem newest_ok {ts:List PTab} {n:Nat} (h:PubOK ts n):newestF ts=(lastT ts,0):=by rw[newestF,if_neg (by simp [validB_yes h.valid])]
theorem head_ok {t:PTab} {n:Nat} (h:TabOK t n) (hn:n≤100):headF t=(⟨t.num,t.p,t.rows.length,t.width,(rootF (t.rows.map rowF)).1⟩,0):=by rw[headF,if_neg (by simp [h.check hn])]
abbrev w3 (w:PWorld):V:=vWd w (.og 17000 0) (.og 17001 0) (.og 17002 0)
abbrev bxW (w:PWorld) (a b c:Nat):U:=[(17000,.arr a 8 true (w.srv.map eSrv)),(17001,.arr b 15 true (w.rd.map eRd)),(17002,.arr c 4 true w.results)]
def QW (n:Nat) (r:V) (bx:U):Prop:=∃ w a b c e,r=.tu [vWd w (.og 17000 a) (.og 17001 b) (.og 17002 c),I e]∧bx=bxW w a b c∧WOK w n
theorem QW.mk {n:Nat} {w:PWorld} {a b c:Nat} {e:Int} (h:WOK w n):QW n (.tu [vWd w (.og 17000 a) (.og 17001 b) (.og 17002 c),I e]) (bxW w a b c):=⟨w,a,b,c,e,rfl,rfl,h⟩
theorem server40 (w:PWorld) (id:Int) (h:w.srv.length≤1000):DoesE Tryz.prog 64 [w3 w,I id] (bxW w 0 0 0) (fun r bx=>∃ i,r=I i∧bx=bxW w 0 0 0∧-1≤i∧i<w.srv.length∧(0≤i→i=id-1)):=by
 refine wE Tryz.func64 fun cx hm0=>?_
 repeat' (first|refine gS ?_|refine sp ?_ ?_ <;> intro h|(with_reducible apply And.intro)|exact aG|fail)
 all_goals (refine dE ?_;exact⟨_,rfl,rfl,by omega,by omega,by omega⟩)
theorem copy40 (w:PWorld) (h1:w.srv.length≤1000) (h2:w.rd.length≤1000) (h3:w.results.length≤1000):Does Tryz.prog 58 [vWorld w] [] (vWd w (.og 1000000 0) (.og 1000001 0) (.og 1000002 0)) [] [.arr 0 8 true (w.srv.map eSrv),.arr 0 15 true (w.rd.map eRd),.arr 0 4 true w.results]:=by
 refine wD Tryz.func58 fun cx hm0=>?_
 repeat' (first|refine gS ?_|refine sp ?_ ?_ <;> intro h|(with_reducible apply And.intro)|exact aG|fail)
 all_goals exact rt [some 3,some 8,some 13]
end Go.Proofs.YticdbambknflgaaGreat.Sim
end
