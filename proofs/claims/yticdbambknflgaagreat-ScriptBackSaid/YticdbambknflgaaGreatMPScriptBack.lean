/- ScriptBack: at every input the law returns true, and each argument reads afterwards as it read before. -/
import Derived.Test.YticdbambknflgaaGreatMScAll
import Derived.Test.YticdbambknflgaaGreatRows
import Derived.ProofKit
import Derived.OpenShut
import Derived.ShutString
import Derived.ChangeOld
import Derived.SizedLaws
import Derived.Below
namespace Go.Proofs.YticdbambknflgaaGreat
open Go Go.RowKit Go.ChangeShapes Go.WideShapes
set_option linter.unusedVariables false
theorem opens_u8:Opens Tryz.prog 5 UInt8 (fun _ _=>True):=by
 intro H enc w base spare held fuel cs x h
 obtain⟨n,rfl,rfl,hw⟩:=DataW.trod_int Tryz.underlying5 h
 have hn:0≤n∧n≤255:=by simpa [Lit.wf,IntKind.min,IntKind.max,IntKind.signed,IntKind.bits] using hw
 obtain⟨m,rfl⟩:=Int.eq_ofNat_of_zero_le hn.1
 refine⟨UInt8.ofNat m,?_,trivial⟩
 show [Value.int .u8 (m:Int)]=[Value.int .u8 ((UInt8.ofNat m).toNat:Int)]
 rw[UInt8.toNat_ofNat',Nat.mod_eq_of_lt (by omega)]
theorem opens_bytes:Opens Tryz.prog 22 (List UInt8) (sliceBulk fun _ _=>True):=Opens.slice Tryz.underlying22 (by kernel_rfl) (by decide) opens_u8
theorem ScriptBack_args (w:World) (v0:Value) (l0:List UInt8) (h0:Lst w (Lo w.heap.size) v0 l0) (hb0:l0.length*1≤140737488351232)
  (s1:List UInt8) (z1:s1.length≤140737488351232)
  (x2:Int) (ha2:-9223372036854775808≤x2) (hc2:x2≤9223372036854775807)
  (x3:Int) (ha3:0≤x3) (hc3:x3≤255):Calls Tryz.prog 4 #[v0,.string ⟨s1.toArray⟩,.int .i64 x2,.int .u8 x3] w (Sim.IsTrueS w):=by
 have:=Sim.calls_true (w:=w) (hgk:=fun g hg=>by simp [Sim.GL] at hg) (us:=[v0,.string ⟨s1.toArray⟩,.int .i64 x2,.int .u8 x3]) (hd:=fun _=>.bool true) (h:=(fun (l:List UInt8) (hl:l.length≤140737488355328) (d:List UInt8) (_:d.length≤140737488351232) (a:Int) (_:-9223372036854775808≤a) (_:a≤9223372036854775807) (y:Int) (h0:0≤y) (h1:y≤255)=>Sc.lawBackI l hl ⟨d.toArray⟩ a y h0 h1) l0 (by omega) s1 z1 x2 ha2 hc2 x3 ha3 hc3) (hv:=by
  simp only[Sim.VRs,Sim.VR,Sim.D.is]
  exact⟨_,_,rfl,Sim.lst_sl (α:=UInt8) (fun x=>[.at (.int .u8 x.toNat)]) Sim.u8_cells h0,⟨_,_,rfl,⟨rfl,rfl⟩,⟨_,_,rfl,⟨rfl,rfl⟩,⟨_,_,rfl,⟨rfl,rfl⟩,rfl⟩⟩⟩⟩)
 simpa using this
end Go.Proofs.YticdbambknflgaaGreat
namespace Go.Proofs.YticdbambknflgaaGreat.scriptBack
open Go.ChangeShapes Go.WideShapes Go.ChangeAt Go.RowKit
open Go.ChangeMaps (open_string shut_string)
set_option linter.unusedVariables false
theorem own:ownKnob Tryz.prog.godebug=none:=by kernel_rfl
theorem laidOut:laidOutB Tryz.prog=true:=by kernel_rfl
theorem wf_i64 {x:Int} (h:(Lit.int .i64 x).wf=true):-9223372036854775808≤x∧x≤9223372036854775807:=by simpa [Lit.wf,IntKind.min,IntKind.max,IntKind.signed,IntKind.bits] using h
theorem wf_u8 {x:Int} (h:(Lit.int .u8 x).wf=true):0≤x∧x≤255:=by simpa [Lit.wf,IntKind.min,IntKind.max,IntKind.signed,IntKind.bits] using h
theorem bytesOf_bytes:Tryz.prog.bytesOf 5=1:=by kernel_rfl
set_option maxRecDepth 100000 in
theorem lifted (os:Os) (started:os.Started) (H:Type) (enc:TypeId × Value→H) :
  ReturnsInHanded {} Tryz.checked os 4 .any (Rows.scriptBackSpec.pre6 enc Tryz.prog Tryz.f4 Rows.scriptBackRow.domain false) (Rows.scriptBackSpec.post enc Tryz.prog Tryz.f4 false true false false):=by
 refine returnsInHanded_of_change_sized (C:=Tryz.checked) own started (by kernel_rfl) Tryz.func4
  (ChangeSpec.witness6 (enc:=enc) (C:=Tryz.checked) false ⟨#[],#[.slice none 0 0,.string ⟨#[]⟩,.int .i64 0,.int .u8 0],[]⟩ 8 (by kernel_rfl) (by kernel_rfl) (by kernel_rfl) (by kernel_rfl)) ?_
 intro W base args ds gs before hval0 hW hcnd hsz0 _
 have hsz:(DataW.weightsEach Tryz.prog (Tryz.f4.params.toList++Rows.scriptBackSpec.plain.varTypes Tryz.prog) (ds++gs)).all (·≤reachBytes)=true:=hsz0
 have hval:∀ (j:Nat) t v,Tryz.f4.params[j]?=some t→args[j]?=some v→Value.okWide Tryz.prog W .any base t v:=hval0
 have hW':=hW
 obtain⟨p,q,hA0,hV,rfl,hfz,hnd⟩:=hW
 have hA:DataW.TrodAll enc Tryz.prog W 0 (fun _=>true) true Tryz.f4.params.toList args.toList ds p:=hA0
 rw[Tryz.params4] at hA hval hsz
 obtain⟨v0,vs0,d0,ds0,p0,q0,hargs,rfl,rfl,h0,r0⟩:=trodAll_cons hA
 obtain⟨v1,vs1,d1,ds1,p1,q1,rfl,rfl,rfl,h1,r1⟩:=trodAll_cons r0
 obtain⟨v2,vs2,d2,ds2,p2,q2,rfl,rfl,rfl,h2,r2⟩:=trodAll_cons r1
 obtain⟨v3,vs3,d3,ds3,p3,q3,rfl,rfl,rfl,h3,r3⟩:=trodAll_cons r2
 obtain⟨rfl,rfl,rfl⟩:=trodAll_nil r3
 obtain rfl:args=#[v0,v1,v2,v3]:=by cases args;simp_all
 obtain⟨rfl,rfl⟩:=trodVars_none hV
 obtain⟨a0,len0,cap0,rfl⟩:=okWide_slice Tryz.underlying22 (hval 0 22 v0 rfl rfl)
 have k0:=h0
 have lt0:∀ x ∈ p0,x.block<W.heap.size:=by obtain⟨m,hm⟩:=k0;exact DataW.trod_lt m _ _ _ hm
 obtain⟨fuel0,hf0⟩:=h0
 obtain⟨x0,⟨u0,hu0,hx0⟩,hbk0⟩:=opens_bytes _ _ _ _ _ _ _ _ _ hf0
 simp [Value.cells] at hu0
 subst hu0
 have bz0:x0.length*1≤140737488351232:=by
  rcases hbk0 with ⟨_,h0⟩|⟨elems,spare,hd,hle,_⟩
  ·rw[h0];simp
  ·have hd':d0=.slice elems spare:=hd
   subst hd'
   have hs:=sized_slice hsz (j:=0) (t:=22) (e:=5) rfl rfl Tryz.underlying22
   rw[bytesOf_bytes] at hs
   simp only[reachBytes] at hs
   have hm:elems.length*1≤(elems.length+spare.length)*1:=Nat.mul_le_mul_right _ (Nat.le_add_right _ _)
   rw[← hle]
   omega
 obtain⟨s1,rfl,rfl,rfl,l1⟩:=open_string Tryz.underlying9 (hval 1 9 v1 rfl rfl) h1
 have z1:s1.data.toList.length≤140737488351232:=sized_string hsz (j:=1) (t:=9) rfl rfl
 have e1:s1=⟨s1.data.toList.toArray⟩:=by cases s1;simp
 obtain⟨x2,rfl,rfl,rfl,w2⟩:=open_int Tryz.underlying3 (hval 2 3 v2 rfl rfl) h2
 have b2:=wf_i64 w2
 obtain⟨x3,rfl,rfl,rfl,w3⟩:=open_int Tryz.underlying5 (hval 3 5 v3 rfl rfl) h3
 have b3:=wf_u8 w3
 clear hA0 hval0
 have hw:=ScriptBack_args W (.slice a0 len0 cap0) x0 hx0 bz0 s1.data.toList z1 x2 b2.1 b2.2 x3 b3.1 b3.2
 rw[← e1] at hw
 refine hw.mono fun e W' ⟨he,bel⟩=>?_
 subst he
 exact⟨_,rfl,_,_,_,[],_,[],hW',trodAll_mk1 (shut_bool Tryz.underlying4 _),(trodAll_cons_mk (Below.trod laidOut (by kernel_rfl) (of_decide_eq_true (by kernel_rfl)) k0 bel lt0) (trodAll_cons_mk (shut_string Tryz.underlying9 l1) (trodAll_cons_mk (shut_int Tryz.underlying3 w2) (trodAll_cons_mk (shut_int Tryz.underlying5 w3) trodAll_mk0)))),rfl,bel.frame _,fun h=>by cases h⟩
theorem over:Rows.scriptBackRow.holds Tryz.pinned (OpenSpec.ofChange Rows.scriptBackSpec) :=
 OpenClaim.holds_of_wide 4 Tryz.f4 rfl rfl rfl rfl rfl rfl rfl ⟨rfl,rfl,rfl,rfl,rfl⟩ rfl rfl rfl rfl rfl (by kernel_rfl) Tryz.func4 (by kernel_rfl)
  (of_decide_eq_true (by kernel_rfl)) (by unfold Func.isWrapper;first|(rw[if_pos (by decide +kernel)];kernel_rfl)|(rw[if_neg (by decide +kernel)];exact⟨rfl,rfl⟩))
  (fun os started H enc _=>lifted os started H enc)
theorem proved:Rows.ScriptBackSaid:=over
#print axioms proved
end Go.Proofs.YticdbambknflgaaGreat.scriptBack
