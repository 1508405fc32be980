/- ScriptSteps: at every input the law returns true, and each argument reads afterwards as it read before. -/
import Derived.Test.YticdbambknflgaaGreatMScAll
import Derived.Test.YticdbambknflgaaGreatRows
import Derived.ProofKit
import Derived.OpenShut
import Derived.ShutString
import Derived.ChangeOld
import Derived.SizedLaws
import Derived.Below
namespace Go.Proofs.YticdbambknflgaaGreat.Sim
open Go Go.RowKit
set_option linter.unusedVariables false
theorem cells_one {w:World} {S:Nat→Prop} {d:D} {v:Value} (h:Cells w S [d] [v]):d.is w S v:=by
 simp only[Cells] at h
 obtain⟨x,r,e,h1,_⟩:=h
 cases e
 exact h1
section
variable {m:M} {hd:H} {w:World} {S:Nat→Prop}
theorem vrs_nil:VRs m hd w S [] []:=by simp only[VRs]
theorem vrs_cons {x:V} {l:List V} {u:Value} {r:List Value} (h:VR m hd w S x u) (h2:VRs m hd w S l r):VRs m hd w S (x :: l) (u :: r):=by
 simp only[VRs]
 exact⟨_,_,rfl,h,h2⟩
theorem vr_d {d:D} {u:Value} (h:d.is w S u):VR m hd w S (.d d) u:=by
 simp only[VR]
 exact h
theorem vr_int {k:IntKind} {n:Int}:VR m hd w S (.d (.at (.int k n))) (.int k n):=by
 simp [VR,D.is,Value.oneCell']
theorem vr_str {n:ByteArray}:VR m hd w S (.d (.at (.string n))) (.string n):=by
 simp [VR,D.is,Value.oneCell']
end
theorem bytesOf_u8:Tryz.prog.bytesOf 5=1:=by kernel_rfl
def ok_bytes (l:List UInt8):Prop:=l.length≤140737488355328
theorem opens_bytes:OpensD Tryz.prog 22 (fun l:List UInt8=>[dBytes l]) ok_bytes :=
 (OpensD.slice (f:=eB) Tryz.underlying22 (by kernel_rfl) (by decide) (fun _=>rfl) (OpensD.u8 Tryz.underlying5)).mono fun l h=>by
  have:=h.1
  simp only[bytesOf_u8,reachBytes] at this
  unfold ok_bytes
  omega
def ok_steps (l:List Sc.PSt):Prop:=∀ x ∈ l,Sc.okR x
theorem opens_steps:OpensD Tryz.prog 24 (fun l:List Sc.PSt=>[Sc.dSts l]) ok_steps:=Sc.opens_stepsI
end Go.Proofs.YticdbambknflgaaGreat.Sim
namespace Go.Proofs.YticdbambknflgaaGreat.scriptSteps
open Go Go.RowKit Go.Deep Go.ChangeShapes Go.WideShapes Go.ChangeAt
open Go.ChangeMaps (open_string shut_string)
set_option linter.unusedVariables false
theorem own:ownKnob Tryz.prog.godebug=none:=by kernel_rfl
theorem laidOut:laidOutB Tryz.prog=true:=by kernel_rfl
theorem wf_i64 {x:Int} (h:(Lit.int .i64 x).wf=true):-9223372036854775808≤x∧x≤9223372036854775807:=by simpa [Lit.wf,IntKind.min,IntKind.max,IntKind.signed,IntKind.bits] using h
theorem wf_u8 {x:Int} (h:(Lit.int .u8 x).wf=true):0≤x∧x≤255:=by simpa [Lit.wf,IntKind.min,IntKind.max,IntKind.signed,IntKind.bits] using h
theorem args (w:World) (v0:Value) (x0:List UInt8) (h0:(Sim.dBytes x0).is w (Lo w.heap.size) v0) (k0:Sim.ok_bytes x0)
  (v1:Value) (x1:List Sc.PSt) (h1:(Sc.dSts x1).is w (Lo w.heap.size) v1) (k1:Sim.ok_steps x1)
  (s2:ByteArray)
  (x3:Int) (l3:-9223372036854775808≤x3) (u3:x3≤9223372036854775807)
  (x4:Int) (l4:0≤x4) (u4:x4≤255)
  (s5:ByteArray):Calls Tryz.prog 5 #[v0,v1,.string s2,.int .i64 x3,.int .u8 x4,.string s5] w (Sim.IsTrueS w):=by
 have:=Sim.calls_true (w:=w) (hgk:=fun g hg=>by simp [Sim.GL] at hg) (us:=[v0,v1,.string s2,.int .i64 x3,.int .u8 x4,.string s5]) (hd:=fun _=>.bool true) (h:=(fun (l:List UInt8) (hl:Sim.ok_bytes l) (raw:List Sc.PSt) (hr:Sim.ok_steps raw) (d:ByteArray) (a:Int) (_:-9223372036854775808≤a) (_:a≤9223372036854775807) (y:Int) (h0:0≤y) (h1:y≤255) (b:ByteArray)=>Sc.lawStepsI l hl raw hr d a y h0 h1 b) x0 k0 x1 k1 s2 x3 l3 u3 x4 l4 u4 s5) (hv:=Sim.vrs_cons (Sim.vr_d h0) (Sim.vrs_cons (Sim.vr_d h1) (Sim.vrs_cons Sim.vr_str (Sim.vrs_cons Sim.vr_int (Sim.vrs_cons Sim.vr_int (Sim.vrs_cons Sim.vr_str (Sim.vrs_nil)))))))
 simpa using this
set_option maxRecDepth 100000 in
theorem lifted (os:Os) (started:os.Started) (H:Type) (enc:TypeId × Value→H) :
  ReturnsInHanded {} Tryz.checked os 5 .any (Rows.scriptStepsSpec.pre6 enc Tryz.prog Tryz.f5 Rows.scriptStepsRow.domain false) (Rows.scriptStepsSpec.post enc Tryz.prog Tryz.f5 false true false false):=by
 refine returnsInHanded_of_change_sized (C:=Tryz.checked) own started (by kernel_rfl) Tryz.func5
  (ChangeSpec.witness6 (enc:=enc) (C:=Tryz.checked) false ⟨#[],#[.slice none 0 0,.slice none 0 0,.string ⟨#[]⟩,.int .i64 0,.int .u8 0,.string ⟨#[]⟩],[]⟩ 8 (by kernel_rfl) (by kernel_rfl) (by kernel_rfl) (by kernel_rfl)) ?_
 intro W base args ds gs before hval0 hW hcnd hsz0 _
 have hsz:(DataW.weightsEach Tryz.prog (Tryz.f5.params.toList++Rows.scriptStepsSpec.plain.varTypes Tryz.prog) (ds++gs)).all (·≤reachBytes)=true:=hsz0
 have hval:∀ (j:Nat) t v,Tryz.f5.params[j]?=some t→args[j]?=some v→Value.okWide Tryz.prog W .any base t v:=hval0
 have hW':=hW
 obtain⟨p,q,hA0,hV,rfl,hfz,hnd⟩:=hW
 have hA:DataW.TrodAll enc Tryz.prog W 0 (fun _=>true) true Tryz.f5.params.toList args.toList ds p:=hA0
 rw[Tryz.params5] at hA hval hsz
 obtain⟨v0,vs0,d0,ds0,p0,q0,hargs,rfl,rfl,h0,r0⟩:=trodAll_cons hA
 obtain⟨v1,vs1,d1,ds1,p1,q1,rfl,rfl,rfl,h1,r1⟩:=trodAll_cons r0
 obtain⟨v2,vs2,d2,ds2,p2,q2,rfl,rfl,rfl,h2,r2⟩:=trodAll_cons r1
 obtain⟨v3,vs3,d3,ds3,p3,q3,rfl,rfl,rfl,h3,r3⟩:=trodAll_cons r2
 obtain⟨v4,vs4,d4,ds4,p4,q4,rfl,rfl,rfl,h4,r4⟩:=trodAll_cons r3
 obtain⟨v5,vs5,d5,ds5,p5,q5,rfl,rfl,rfl,h5,r5⟩:=trodAll_cons r4
 obtain⟨rfl,rfl,rfl⟩:=trodAll_nil r5
 obtain rfl:args=#[v0,v1,v2,v3,v4,v5]:=by cases args;simp_all
 obtain⟨rfl,rfl⟩:=trodVars_none hV
 obtain⟨a0,len0,cap0,rfl⟩:=okWide_slice Tryz.underlying22 (hval 0 22 v0 rfl rfl)
 have k0:=h0
 have lt0:∀ x ∈ p0,x.block<W.heap.size:=by obtain⟨m,hm⟩:=k0;exact DataW.trod_lt m _ _ _ hm
 obtain⟨fuel0,hf0⟩:=h0
 obtain⟨x0,hx0,hk0⟩:=Sim.opens_bytes _ _ _ _ _ _ _ _ _ hf0
 simp only[Value.cells] at hx0
 have ok0:=hk0 (Sim.sized_of hsz (j:=0) rfl rfl)
 obtain⟨a1,len1,cap1,rfl⟩:=okWide_slice Tryz.underlying24 (hval 1 24 v1 rfl rfl)
 have k1:=h1
 have lt1:∀ x ∈ p1,x.block<W.heap.size:=by obtain⟨m,hm⟩:=k1;exact DataW.trod_lt m _ _ _ hm
 obtain⟨fuel1,hf1⟩:=h1
 obtain⟨x1,hx1,hk1⟩:=Sim.opens_steps _ _ _ _ _ _ _ _ _ hf1
 simp only[Value.cells] at hx1
 have ok1:=hk1 (Sim.sized_of hsz (j:=1) rfl rfl)
 obtain⟨s2,rfl,rfl,rfl,l2⟩:=open_string Tryz.underlying9 (hval 2 9 v2 rfl rfl) h2
 obtain⟨x3,rfl,rfl,rfl,w3⟩:=open_int Tryz.underlying3 (hval 3 3 v3 rfl rfl) h3
 have b3:=wf_i64 w3
 obtain⟨x4,rfl,rfl,rfl,w4⟩:=open_int Tryz.underlying5 (hval 4 5 v4 rfl rfl) h4
 have b4:=wf_u8 w4
 obtain⟨s5,rfl,rfl,rfl,l5⟩:=open_string Tryz.underlying9 (hval 5 9 v5 rfl rfl) h5
 clear hA0 hval0
 have hw:=args W (.slice a0 len0 cap0) x0 (Sim.cells_one (by simpa using hx0)) ok0 (.slice a1 len1 cap1) x1 (Sim.cells_one (by simpa using hx1)) ok1 s2 x3 b3.1 b3.2 x4 b4.1 b4.2 s5
 refine hw.mono fun e W' ⟨he,bel⟩=>?_
 subst he
 exact⟨_,rfl,_,_,_,[],_,[],hW',trodAll_mk1 (shut_bool Tryz.underlying4 _),(trodAll_cons_mk (Below.trod laidOut (by kernel_rfl) (of_decide_eq_true (by kernel_rfl)) k0 bel lt0) (trodAll_cons_mk (Below.trod laidOut (by kernel_rfl) (of_decide_eq_true (by kernel_rfl)) k1 bel lt1) (trodAll_cons_mk (shut_string Tryz.underlying9 l2) (trodAll_cons_mk (shut_int Tryz.underlying3 w3) (trodAll_cons_mk (shut_int Tryz.underlying5 w4) (trodAll_cons_mk (shut_string Tryz.underlying9 l5) trodAll_mk0)))))),rfl,bel.frame _,fun h=>by cases h⟩
theorem over:Rows.scriptStepsRow.holds Tryz.pinned (OpenSpec.ofChange Rows.scriptStepsSpec) :=
 OpenClaim.holds_of_wide 5 Tryz.f5 rfl rfl rfl rfl rfl rfl rfl ⟨rfl,rfl,rfl,rfl,rfl⟩ rfl rfl rfl rfl rfl (by kernel_rfl) Tryz.func5 (by kernel_rfl)
  (of_decide_eq_true (by kernel_rfl)) (by unfold Func.isWrapper;first|(rw[if_pos (by decide +kernel)];kernel_rfl)|(rw[if_neg (by decide +kernel)];exact⟨rfl,rfl⟩))
  (fun os started H enc _=>lifted os started H enc)
theorem proved:Rows.ScriptStepsSaid:=over
#print axioms proved
end Go.Proofs.YticdbambknflgaaGreat.scriptSteps
