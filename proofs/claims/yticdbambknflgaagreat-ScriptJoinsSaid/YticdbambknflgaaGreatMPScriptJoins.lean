/- ScriptJoins: at every input the law returns true, and each argument reads afterwards as it read before. -/
import Derived.Test.YticdbambknflgaaGreatMScAll
import Derived.Test.YticdbambknflgaaGreatRows
import Derived.ProofKit
import Derived.OpenShut
import Derived.ShutString
import Derived.ChangeOld
import Derived.SizedLaws
import Derived.Below
namespace Go.Proofs.YticdbambknflgaaGreat
open Go Go.RowKit Go.ChangeShapes Go.WideShapes
set_option linter.unusedVariables false
theorem opens_u8:Opens Tryz.prog 5 UInt8 (fun _ _=>True):=by
 intro H enc w base spare held fuel cs x h
 obtain⟨n,rfl,rfl,hw⟩:=DataW.trod_int Tryz.underlying5 h
 have hn:0≤n∧n≤255:=by simpa [Lit.wf,IntKind.min,IntKind.max,IntKind.signed,IntKind.bits] using hw
 obtain⟨m,rfl⟩:=Int.eq_ofNat_of_zero_le hn.1
 refine⟨UInt8.ofNat m,?_,trivial⟩
 show [Value.int .u8 (m:Int)]=[Value.int .u8 ((UInt8.ofNat m).toNat:Int)]
 rw[UInt8.toNat_ofNat',Nat.mod_eq_of_lt (by omega)]
theorem opens_bytes:Opens Tryz.prog 22 (List UInt8) (sliceBulk fun _ _=>True):=Opens.slice Tryz.underlying22 (by kernel_rfl) (by decide) opens_u8
theorem ScriptJoins_args (w:World) (v0:Value) (l0:List UInt8) (h0:Lst w (Lo w.heap.size) v0 l0) (hb0:l0.length*1≤140737488351232):Calls Tryz.prog 3 #[v0] w (Sim.IsTrueS w):=by
 have:=Sim.calls_true (w:=w) (hgk:=fun g hg=>by simp [Sim.GL] at hg) (us:=[v0]) (hd:=fun _=>.bool true) (h:=Sc.lawJoins l0 (by omega)) (hv:=by
  simp only[Sim.VRs,Sim.VR,Sim.D.is]
  exact⟨_,_,rfl,Sim.lst_sl (α:=UInt8) (fun x=>[.at (.int .u8 x.toNat)]) Sim.u8_cells h0,rfl⟩)
 simpa using this
end Go.Proofs.YticdbambknflgaaGreat
namespace Go.Proofs.YticdbambknflgaaGreat.scriptJoins
open Go.ChangeShapes Go.WideShapes Go.ChangeAt Go.RowKit
open Go.ChangeMaps (open_string shut_string)
set_option linter.unusedVariables false
theorem own:ownKnob Tryz.prog.godebug=none:=by kernel_rfl
theorem laidOut:laidOutB Tryz.prog=true:=by kernel_rfl
theorem bytesOf_bytes:Tryz.prog.bytesOf 5=1:=by kernel_rfl
set_option maxRecDepth 100000 in
theorem lifted (os:Os) (started:os.Started) (H:Type) (enc:TypeId × Value→H) :
  ReturnsInHanded {} Tryz.checked os 3 .any (Rows.scriptJoinsSpec.pre6 enc Tryz.prog Tryz.f3 Rows.scriptJoinsRow.domain false) (Rows.scriptJoinsSpec.post enc Tryz.prog Tryz.f3 false true false false):=by
 refine returnsInHanded_of_change_sized (C:=Tryz.checked) own started (by kernel_rfl) Tryz.func3
  (ChangeSpec.witness6 (enc:=enc) (C:=Tryz.checked) false ⟨#[],#[.slice none 0 0],[]⟩ 8 (by kernel_rfl) (by kernel_rfl) (by kernel_rfl) (by kernel_rfl)) ?_
 intro W base args ds gs before hval0 hW hcnd hsz0 _
 have hsz:(DataW.weightsEach Tryz.prog (Tryz.f3.params.toList++Rows.scriptJoinsSpec.plain.varTypes Tryz.prog) (ds++gs)).all (·≤reachBytes)=true:=hsz0
 have hval:∀ (j:Nat) t v,Tryz.f3.params[j]?=some t→args[j]?=some v→Value.okWide Tryz.prog W .any base t v:=hval0
 have hW':=hW
 obtain⟨p,q,hA0,hV,rfl,hfz,hnd⟩:=hW
 have hA:DataW.TrodAll enc Tryz.prog W 0 (fun _=>true) true Tryz.f3.params.toList args.toList ds p:=hA0
 rw[Tryz.params3] at hA hval hsz
 obtain⟨v0,vs0,d0,ds0,p0,q0,hargs,rfl,rfl,h0,r0⟩:=trodAll_cons hA
 obtain⟨rfl,rfl,rfl⟩:=trodAll_nil r0
 obtain rfl:args=#[v0]:=by cases args;simp_all
 obtain⟨rfl,rfl⟩:=trodVars_none hV
 obtain⟨a0,len0,cap0,rfl⟩:=okWide_slice Tryz.underlying22 (hval 0 22 v0 rfl rfl)
 have k0:=h0
 have lt0:∀ x ∈ p0,x.block<W.heap.size:=by obtain⟨m,hm⟩:=k0;exact DataW.trod_lt m _ _ _ hm
 obtain⟨fuel0,hf0⟩:=h0
 obtain⟨x0,⟨u0,hu0,hx0⟩,hbk0⟩:=opens_bytes _ _ _ _ _ _ _ _ _ hf0
 simp [Value.cells] at hu0
 subst hu0
 have bz0:x0.length*1≤140737488351232:=by
  rcases hbk0 with ⟨_,h0⟩|⟨elems,spare,hd,hle,_⟩
  ·rw[h0];simp
  ·have hd':d0=.slice elems spare:=hd
   subst hd'
   have hs:=sized_slice hsz (j:=0) (t:=22) (e:=5) rfl rfl Tryz.underlying22
   rw[bytesOf_bytes] at hs
   simp only[reachBytes] at hs
   have hm:elems.length*1≤(elems.length+spare.length)*1:=Nat.mul_le_mul_right _ (Nat.le_add_right _ _)
   rw[← hle]
   omega
 clear hA0 hval0
 have hw:=ScriptJoins_args W (.slice a0 len0 cap0) x0 hx0 bz0
 refine hw.mono fun e W' ⟨he,bel⟩=>?_
 subst he
 exact⟨_,rfl,_,_,_,[],_,[],hW',trodAll_mk1 (shut_bool Tryz.underlying4 _),(trodAll_cons_mk (Below.trod laidOut (by kernel_rfl) (of_decide_eq_true (by kernel_rfl)) k0 bel lt0) trodAll_mk0),rfl,bel.frame _,fun h=>by cases h⟩
theorem over:Rows.scriptJoinsRow.holds Tryz.pinned (OpenSpec.ofChange Rows.scriptJoinsSpec) :=
 OpenClaim.holds_of_wide 3 Tryz.f3 rfl rfl rfl rfl rfl rfl rfl ⟨rfl,rfl,rfl,rfl,rfl⟩ rfl rfl rfl rfl rfl (by kernel_rfl) Tryz.func3 (by kernel_rfl)
  (of_decide_eq_true (by kernel_rfl)) (by unfold Func.isWrapper;first|(rw[if_pos (by decide +kernel)];kernel_rfl)|(rw[if_neg (by decide +kernel)];exact⟨rfl,rfl⟩))
  (fun os started H enc _=>lifted os started H enc)
theorem proved:Rows.ScriptJoinsSaid:=over
#print axioms proved
end Go.Proofs.YticdbambknflgaaGreat.scriptJoins
