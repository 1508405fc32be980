/- From a function's walk to what it does; its code is reckoned on the way. -/
import Derived.Test.YticdbambknflgaaGreatMSimZf
import Derived.Test.YticdbambknflgaaGreatProg
import Derived.ProofKit
section
namespace Go.Proofs.YticdbambknflgaaGreat.Sim
open Go Go.RowKit Go.Deep
set_option linter.unusedVariables false
theorem aK {p:Prop} (h:p:=by first|((try simp only[CC,LL,NM,EE,QQ,seval]) <;> (first|rfl|((repeat constructor);done)))|fail):p:=h
theorem aJ {p:Prop} (h:p:=by first|((try simp only[CC,LL,NM,EE,QQ,seval]);(repeat' (first|trivial|(with_reducible rfl)|omega|(with_reducible apply And.intro)|rfl));done)|fail):p:=h
theorem aU {p:Prop} (h:p:=by first|((try simp only[OV,CC,LL,EE,QQ,seval]);rfl)|fail):p:=h
theorem aV {p:Prop} (h:p:=by first|trivial|decide|((try simp only[CC,LL,EE,QQ,seval]) <;> repeat' (first|(with_reducible apply And.intro)|(exact⟨_,rfl,rfl,rfl⟩)|(exact⟨_,_,_,rfl⟩)|(exact⟨_,rfl⟩)|trivial|rfl|(simp;done)))|fail):p:=h
theorem lm0 {α β:Type} {l:List α} {f:α→β}:(l.map f).length=l.length:=List.length_map f
def drF:Option (List AO × List Ent × Bool)→Option (List AO × List Ent × Bool)
 |none=>none
 |some (all,acc,_)=>some (all,acc,false)
theorem PQ:type_of% (And.intro PL (And.intro PP (And.intro EE (And.intro QQ (And.intro @drF.eq_1 (And.intro @drF.eq_2 (And.intro @bne_self_eq_false.{0} @lm0))))))):=And.intro PL (And.intro PP (And.intro EE (And.intro QQ (And.intro @drF.eq_1 (And.intro @drF.eq_2 (And.intro @bne_self_eq_false.{0} @lm0))))))
theorem gS {p q:Prop} (h:q) (e:p=q:=by first|(simp (maxSteps:=9999999) only[↓GE,PQ,seval];rfl)|(simp (disch:=omega) only[IntWalk.i64_in];rfl)|fail):p:=e.mpr h
section
variable {a b c d f g p q:Prop}
theorem gA (x:a) (h:q) (e:a→p=q:=by first|(intro x;simp (maxSteps:=9999999) only[↓GE,PQ,seval,x];rfl)|(intro x;simp (disch:=omega) only[IntWalk.i64_in];rfl)|fail):p:=(e x).mpr h
theorem gB (x:a) (y:b) (h:q) (e:a→b→p=q:=by first|(intro x y;simp (maxSteps:=9999999) only[↓GE,PQ,seval,x,y];rfl)|(intro x y;simp (disch:=omega) only[IntWalk.i64_in];rfl)|fail):p:=(e x y).mpr h
theorem gC (x:a) (y:b) (z:c) (h:q) (e:a→b→c→p=q:=by first|(intro x y z;simp (maxSteps:=9999999) only[↓GE,PQ,seval,x,y,z];rfl)|(intro x y z;simp (disch:=omega) only[IntWalk.i64_in];rfl)|fail):p:=(e x y z).mpr h
theorem gQ (x:a) (y:b) (z:c) (u:d) (h:q) (e:a→b→c→d→p=q:=by first|(intro x y z u;simp (maxSteps:=9999999) only[↓GE,PQ,seval,x,y,z,u];rfl)|(intro x y z u;simp (disch:=omega) only[IntWalk.i64_in];rfl)|fail):p:=(e x y z u).mpr h
theorem sp {u v:Prop} (h:u) (k:v) (e:u→v→g:=by first|exact go_brD|exact go_gsD aE|exact go_br|exact go_gs aE|fail):g:=e h k
end
section
variable {P:Program} {cx:Cx} {Q:Exit→St→Prop} {o:AO} {f:FuncId} {d:Nat} {l all:List AO} {acc:List Ent} {dr dn:Option (List AO × List Ent × Bool)} {r:List Fm} {T:Nat→V} {m:M} {zs ys:List V} {bx bx':U} {q v:V} {ns:List O} {us:U} {Qs:V→Prop} {Qe:V→U→Prop}
theorem gP (hD:Does P f ys bx q bx' ns) (h:Go P cx Q 5000 (.res o zs (some (v,us))) (.ops l dr :: r) T m) (hk:o.k=.call f:=by rfl) (hd:o.dst.getD 0=d:=by rfl) (hA:argFs m bx zs ys:=by exact aK) (hF:CallForm m (1000*(d+2)) bx q bx' ns:=by exact CallForm.plain rfl)
  (hv:q.ren (1000*(d+2)) m=v:=by exact aK) (hu:frz m (lentOut bx (V.flats zs))++(bx'++freshIn (1000*(d+2)) m ns)=us:=by exact aK):Mean P cx Q (.op false o zs) (.ops l dr :: r) T m:=go_call 5000 hD hk hd hA hF hv hu h
theorem gN (hD:Does P f ys bx q bx' ns) (h:Go P cx Q 5000 (.res o zs (some (v,us))) (.ops l dr :: r) T m) (hk:o.k=.call f:=by rfl) (hd:o.dst.getD 0=d:=by rfl) (hA:argFs m bx zs ys:=by exact aK) (hF:CallForm m (1000*(d+2)) bx q bx' ns:=by exact CallForm.news rfl rfl)
  (hv:q.ren (1000*(d+2)) m=v:=by exact aK) (hu:frz m (lentOut bx (V.flats zs))++(bx'++freshIn (1000*(d+2)) m ns)=us:=by exact aK):Mean P cx Q (.op false o zs) (.ops l dr :: r) T m:=go_call 5000 hD hk hd hA hF hv hu h
theorem gL (hD:Does P f ys bx q bx' ns) (h:Go P cx Q 5000 (.res o zs (some (v,us))) (.ops l dr :: r) T m) (hk:o.k=.call f:=by rfl) (hd:o.dst.getD 0=d:=by rfl) (hA:argFs m bx zs ys:=by exact aK) (hF:CallForm m (1000*(d+2)) bx q bx' ns:=by exact CallForm.lent aJ rfl rfl)
  (hv:q.ren (1000*(d+2)) m=v:=by exact aK) (hu:frz m (lentOut bx (V.flats zs))++(bx'++freshIn (1000*(d+2)) m ns)=us:=by exact aK):Mean P cx Q (.op false o zs) (.ops l dr :: r) T m:=go_call 5000 hD hk hd hA hF hv hu h
theorem gE (hD:DoesE P f ys bx Qe) (h:∀ q bx',Qe q bx'→CallForm m (1000*(d+2)) bx q bx' []∧Go P cx Q 5000 (.res o zs (some (q.ren (1000*(d+2)) m,us++bx'))) (.ops l none :: r) T m) (hk:o.k=.call f:=by rfl) (hd:o.dst.getD 0=d:=by rfl) (hg:o.guard=none:=by rfl) (hA:argFs m bx zs ys:=by exact aK) (hI:CallForm m (1000*(d+2)) bx (.tu []) bx []:=by exact CallForm.lent aJ rfl rfl)
  (hu:frz m (lentOut bx (V.flats zs))=us:=by exact aK):Mean P cx Q (.op false o zs) (.ops l none :: r) T m:=go_callE 5000 hD hk hd hg hA hI hu h
theorem gG {b:Nat} {p p':Prop} (h:p') (e:p=p':=by first|((try simp only[CC,NM,I,B,List.cons_append,List.nil_append,seval]);rfl)|fail) (k:CallForm m b bx q bx' []:=by exact CallForm.lent aJ rfl rfl):CallForm m b bx q bx' []∧p:=⟨k,e.mpr h⟩
def drB:Option (List AO × List Ent × Bool)→Bool
 |none=>true
 |some (all,acc,b)=>b&&eOK all acc.length
theorem gW (hD:DoesP P f ys Qs) (h:∀ q,Qs q→q.wfR [] 0=true∧Go P cx Q 5000 (.res o zs (some (q,us))) (.ops l dn :: r) T m) (hk:o.k=.call f:=by rfl) (hg:o.guard=none:=by rfl) (hn:drF dr=dn:=by rfl) (hA:argFs m [] zs ys:=by exact aK) (hu:frz m (V.flats zs)=us:=by exact aK) (hb:drB dr=true:=by kernel_rfl):Mean P cx Q (.op false o zs) (.ops l dr :: r) T m:=by
 subst hn
 match dr,hb,h with
 |none,_,h=>exact go_callP 5000 hD hk hg hA hu h
 |some (all,acc,true),hb,h=>exact go_callPD 5000 hD hk hg hA hu (by simpa only[drB,Bool.true_and] using hb) (fun q hq=>(h q hq).1) (fun q hq=>(h q hq).2)
def exB:Exit→Bool
 |.ret=>true
 |.normal=>true
 |_=>false
theorem rt {rs:List RV} {r' r:V} {ex:Exit} (ids:List (Option Nat)) (h:resV ⟨T,m⟩ rs=some r':=by exact aU) (h1:exF m bx' ids r' r:=by exact aZ) (h2:asF m ids ns:=by exact aV) (h3:(ids.filterMap id).Nodup:=by exact aV) (h4:bxF m ids bx':=by exact aV) (hx:exB ex=true:=by rfl):RetE rs r bx' ns ex ⟨T,m⟩:=by
 cases ex with
 |ret=>exact ret_mk ids h h1 h2 h3 h4
 |normal=>exact end_mk ids h h1 h2 h3 h4
 |_=>cases hx
theorem rtF {fa:Prop} {rs:List RV} {r' r:V} {ex:Exit} (ids:List (Option Nat)) (x:fa) (h:resV ⟨T,m⟩ rs=some r':=by exact aU) (h1:fa→exF m bx' ids r' r:=by first|(intro x;(try simp only[XC,↓reduceIte,seval]);repeat' (first|(with_reducible apply And.intro)|exact aD|(simp [*,x];done)|(simp [*,x];omega)|(simp_all [x];done)|(simp_all [x];omega)))|fail)
  (h2:fa→asF m ids ns:=by first|(intro x;((try simp only[XC,↓reduceIte,seval]) <;> (repeat' (first|(with_reducible apply And.intro)|trivial|rfl|(simp [x];done))));done)|(intro x;exact aV)|fail) (h3:(ids.filterMap id).Nodup:=by exact aV) (h4:fa→bxF m ids bx':=by first|(intro x;((try simp only[XC,↓reduceIte,seval]) <;> (repeat' (first|(with_reducible apply And.intro)|trivial|rfl|(simp [x];done))));done)|(intro x;exact aV)|fail) (hx:exB ex=true:=by rfl):RetE rs r bx' ns ex ⟨T,m⟩:=rt ids h (h1 x) (h2 x) h3 (h4 x) hx
theorem dP {rs:List RV} {r' r:V} {ex:Exit} (hq:Qs r) (h:resV ⟨T,m⟩ rs=some r':=by exact aU) (h1:outV m [] r'=some r:=by exact aU) (hx:exB ex=true:=by rfl):RetEE rs [] (fun r bx'=>Qs r∧bx'=[]) ex ⟨T,m⟩:=by
 cases ex with
 |ret=>exact retP_mk h h1 hq
 |normal=>exact endP_mk h h1 hq
 |_=>cases hx
theorem dE {rs:List RV} {r' r:V} {ex:Exit} (hq:Qe r bx') (h:resV ⟨T,m⟩ rs=some r':=by exact aU) (hb:bxOut m (bx.map (·.1))=some bx':=by exact aU) (h1:outV m bx' r'=some r:=by exact aU) (h3:bxF m [] bx':=by exact aV) (hx:exB ex=true:=by rfl):RetEE rs bx Qe ex ⟨T,m⟩:=by
 cases ex with
 |ret=>exact retA_mk h hb h1 h3 hq
 |normal=>exact endA_mk h hb h1 h3 hq
 |_=>cases hx
end
def eI (x:Int):List D:=[.at (.int .i64 x)]
theorem aX {p:Prop} (h:p:=by first|(simp only[GeZ];simp only[GeS];refine⟨?_,?_,?_,?_⟩;all_goals (repeat' (first|(with_reducible exact True.intro)|(with_reducible rfl)|simp only[XC,↓reduceIte,seval]|(with_reducible apply And.intro)|(refine⟨_,rfl,?_⟩)|(simp [eI];done)|rfl|omega|trivial));done)|fail):p:=h
theorem aY {r p:Prop} (x:r) (h:r→p:=by first|(intro x;(try simp only[GeZ]);simp only[GeS];refine⟨?_,?_,?_,?_⟩;all_goals (repeat' (first|(with_reducible exact True.intro)|(with_reducible rfl)|simp only[XC,↓reduceIte,seval]|(with_reducible apply And.intro)|(refine⟨_,rfl,?_⟩)|(simp [x];done)|(simp [eI,x];done)|rfl|omega|trivial));done)|fail):p:=h x
theorem gl {κ:Type} {P:Program} {cx:Cx} {Q:Exit→St→Prop} {x:AC} {bx:U} {r:List Fm} {T:Nat→V} {m:M} (hx:cx.m0=ups M0 bx) (J:κ→Prop) (T0:κ→List (Nat × V)) (ml:κ→U) (μ:κ→Nat) (fz:List V) (ad:List Nat) (i0:κ)
  (hr:∀ i,J i→Go P cx Q 5000 (.ex .normal) (.run x :: .lp (fun s'=>∃ fz ad,∃ i':{i:κ // J i},GeZ s' fz ad (T0 i'.1) (ml i'.1) bx∧μ i'.1<μ i) :: r) (tl (T0 i)) (ups M0 (ml i))) (hJ:J i0:=by exact aI) (h0:GeZ ⟨T,m⟩ fz ad (T0 i0) (ml i0) bx:=by exact aX):Awp P cx (.loop x) (stk P cx Q r) ⟨T,m⟩ :=
 go_loopz (ι:={i:κ // J i}) 5000 hx (fun i=>T0 i.1) (fun i=>ml i.1) (fun i=>μ i.1) fz ad ⟨i0,hJ⟩ h0 fun i=>hr i.1 i.2
theorem nx {κ:Type} {J:κ→Prop} {s:St} {T0:κ→List (Nat × V)} {ml:κ→U} {bx:U} {μ:κ→Nat} {n:Nat} (fz:List V) (ad:List Nat) (i:κ) (hJ:J i:=by exact aI) (h:GeZ s fz ad (T0 i) (ml i) bx:=by exact aX) (hm:μ i<n:=by exact aI):∃ fz ad,∃ i:{i:κ // J i},GeZ s fz ad (T0 i.1) (ml i.1) bx∧μ i.1<n:=⟨fz,ad,⟨i,hJ⟩,h,hm⟩
end Go.Proofs.YticdbambknflgaaGreat.Sim
end
section
namespace Go.Proofs.YticdbambknflgaaGreat.Sim
open Go
set_option maxRecDepth 100000
set_option linter.unusedVariables false
section
variable {f:FuncId} {fn:Func} {xs:List V} {bx bx':U} {Qs:V→U→Prop} {ac:AC} {rs:List RV} {r:V} {ns:List O}
theorem wE' (hf:Tryz.prog.funcs[f]?=some fn) (h:∀ cx:Cx,cx.m0=ups M0 bx→Awp Tryz.prog cx ac (RetEE rs bx Qs) ⟨tl (idx 0 xs),ups M0 bx⟩) (s:List Nat:=[]) (hb:fn.body=some (fn.body.getD .skip):=by kernel_rfl) (hc:CT Tryz.prog fn s=some ac:=by conv=>lhs;cbv) (hr:rvsOf Tryz.prog fn.results.toList=some rs:=by conv=>lhs;cbv) (hxs:decide (xs.length≤fn.ntmps)=true:=by rfl) (hbx:(bx.map (·.1)).Nodup:=by simp):DoesE Tryz.prog f xs bx Qs:=doesE_of hf hb rfl hc hr (of_decide_eq_true hxs) hbx fun cx _ hm=>h cx hm
theorem wE (hf:Tryz.prog.funcs[f]?=some fn) (h:∀ cx:Cx,cx.m0=ups M0 bx→Go Tryz.prog cx (RetEE rs bx Qs) 5000 (.ex .normal) [.run ac] (tl (idx 0 xs)) (ups M0 bx)) (s:List Nat:=[]) (hb:fn.body=some (fn.body.getD .skip):=by kernel_rfl) (hc:CT Tryz.prog fn s=some ac:=by conv=>lhs;cbv) (hr:rvsOf Tryz.prog fn.results.toList=some rs:=by conv=>lhs;cbv) (hxs:decide (xs.length≤fn.ntmps)=true:=by rfl) (hbx:(bx.map (·.1)).Nodup:=by simp):DoesE Tryz.prog f xs bx Qs:=wE' hf (fun cx hm=>go_in 5000 (h cx hm)) s hb hc hr hxs hbx
theorem wD' (hf:Tryz.prog.funcs[f]?=some fn) (hbx:BxOK bx bx') (h:∀ cx:Cx,cx.m0=ups M0 bx→Awp Tryz.prog cx ac (RetE rs r bx' ns) ⟨tl (idx 0 xs),ups M0 bx⟩) (s:List Nat:=[]) (hb:fn.body=some (fn.body.getD .skip):=by kernel_rfl) (hc:CT Tryz.prog fn s=some ac:=by conv=>lhs;cbv) (hr:rvsOf Tryz.prog fn.results.toList=some rs:=by conv=>lhs;cbv) (hxs:decide (xs.length≤fn.ntmps)=true:=by rfl):Does Tryz.prog f xs bx r bx' ns:=does_of hf hb rfl hc hr (of_decide_eq_true hxs) hbx fun cx _ hm=>h cx hm
theorem wB (hf:Tryz.prog.funcs[f]?=some fn) (hbx:BxOK bx bx') (h:∀ cx:Cx,cx.m0=ups M0 bx→Go Tryz.prog cx (RetE rs r bx' ns) 5000 (.ex .normal) [.run ac] (tl (idx 0 xs)) (ups M0 bx)) (s:List Nat:=[]) (hb:fn.body=some (fn.body.getD .skip):=by kernel_rfl) (hc:CT Tryz.prog fn s=some ac:=by conv=>lhs;cbv) (hr:rvsOf Tryz.prog fn.results.toList=some rs:=by conv=>lhs;cbv) (hxs:decide (xs.length≤fn.ntmps)=true:=by rfl):Does Tryz.prog f xs bx r bx' ns:=wD' hf hbx (fun cx hm=>go_in 5000 (h cx hm)) s hb hc hr hxs
theorem wD (hf:Tryz.prog.funcs[f]?=some fn) (h:∀ cx:Cx,cx.m0=ups M0 []→Go Tryz.prog cx (RetE rs r [] ns) 5000 (.ex .normal) [.run ac] (tl (idx 0 xs)) (ups M0 [])) (s:List Nat:=[]) (hb:fn.body=some (fn.body.getD .skip):=by kernel_rfl) (hc:CT Tryz.prog fn s=some ac:=by conv=>lhs;cbv) (hr:rvsOf Tryz.prog fn.results.toList=some rs:=by conv=>lhs;cbv) (hxs:decide (xs.length≤fn.ntmps)=true:=by rfl):Does Tryz.prog f xs [] r [] ns:=wB hf BxOK.nil h s hb hc hr hxs
end
end Go.Proofs.YticdbambknflgaaGreat.Sim
end
