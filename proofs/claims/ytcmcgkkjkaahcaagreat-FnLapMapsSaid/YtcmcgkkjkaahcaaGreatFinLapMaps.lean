/-
  FnLapMaps answers true whatever comes in,and what comes in reads behind the call as it did.
  Conditions: none.
-/
import Derived.WalkKit
import Derived.ProofKit
import Derived.OpenShut
import Derived.ShutString
import Derived.ChangeOld
import Derived.Below
import Derived.Test.YtcmcgkkjkaahcaaGreatRows
import Derived.Test.YtcmcgkkjkaahcaaGreatPvCx
import Derived.Test.YtcmcgkkjkaahcaaGreatWLapMaps
import Derived.Test.YtcmcgkkjkaahcaaGreatPlBx
set_option linter.all false
namespace Go.Proofs.YtcmcgkkjkaahcaaGreat
open Go.ChangeShapes Go.WideShapes Go.ChangeAt Go.RowKit Go.PV
open Go.ChangeMaps (open_string shut_string)
set_option linter.unusedVariables false
theorem FnLapMaps_own:ownKnob Tryz.prog.godebug=none:=by kernel_rfl
theorem FnLapMaps_laidOut:laidOutB Tryz.prog=true:=by kernel_rfl
set_option maxRecDepth 100000 in
theorem FnLapMaps_lifted (os:Os) (started:os.Started) (H:Type) (enc:TypeId×Value->H) :
    ReturnsInHanded {} Tryz.checked os 5 .any (Rows.fnLapMapsSpec.pre6 enc Tryz.prog Tryz.f5 Rows.fnLapMapsRow.domain false) (Rows.fnLapMapsSpec.post enc Tryz.prog Tryz.f5 false true false false):=by
  refine returnsInHanded_of_change (C:=Tryz.checked) FnLapMaps_own started (by kernel_rfl) Tryz.func5
    (ChangeSpec.witness6 (enc:=enc) (C:=Tryz.checked) false ⟨#[],#[.slice none 0 0,.slice none 0 0],[]⟩ 8 (by kernel_rfl) (by kernel_rfl) (by kernel_rfl) (by kernel_rfl)) ?_
  intro W base args ds gs before hval0 hW hcnd _
  have hval:∀ (j:Nat) t v,Tryz.f5.params[j]?=some t->args[j]?=some v->Value.okWide Tryz.prog W .any base t v:=hval0
  have hW':=hW
  obtain⟨p,q,hA0,hV,rfl,hfz,hnd⟩:=hW
  have hA:DataW.TrodAll enc Tryz.prog W 0 (fun _=>true) true Tryz.f5.params.toList args.toList ds p:=hA0
  rw[Tryz.params5] at hA hval
  obtain⟨v0,vs0,d0,ds0,p0,q0,hargs,rfl,rfl,h0,r0⟩:=trodAll_cons hA
  obtain⟨v1,vs1,d1,ds1,p1,q1,rfl,rfl,rfl,h1,r1⟩:=trodAll_cons r0
  obtain⟨rfl,rfl,rfl⟩:=trodAll_nil r1
  obtain rfl:args=#[v0,v1]:=by cases args;simp_all
  obtain⟨rfl,rfl⟩:=trodVars_none hV
  have lt0:∀ x∈p0,x.block<W.heap.size:=by obtain⟨m,hm⟩:=h0;exact DataW.trod_lt m _ _ _ hm
  obtain⟨a0,ok0,hf0⟩:=ytw1 (n:=12) (T:=(.sl (.int .u8))) (by kernel_rfl) (hval 0 22 v0 rfl rfl) h0
  have lt1:∀ x∈p1,x.block<W.heap.size:=by obtain⟨m,hm⟩:=h1;exact DataW.trod_lt m _ _ _ hm
  obtain⟨a1,ok1,hf1⟩:=ytw1 (n:=12) (T:=(.sl (.int .u8))) (by kernel_rfl) (hval 1 22 v1 rfl rfl) h1
  refine(yjp1 (W:=W) (vals:=#[v0,v1]) (ylp1 (by kernel_rfl) (ykp1 (by kernel_rfl))) (wk_laws_FnLapMaps (laws_FnLapMaps_eq a0 a1 (yyn1 ok0) (yyn1 ok1))) rfl ⟨hf0,⟨hf1,trivial⟩⟩).mono fun e W' ⟨he,bel⟩=>?_
  subst he
  exact⟨_,rfl,_,_,_,[],_,[],hW',trodAll_mk1 (shut_bool Tryz.underlying4 _),(trodAll_cons_mk (Below.trod FnLapMaps_laidOut (by kernel_rfl) (of_decide_eq_true (by kernel_rfl)) h0 bel lt0) (trodAll_cons_mk (Below.trod FnLapMaps_laidOut (by kernel_rfl) (of_decide_eq_true (by kernel_rfl)) h1 bel lt1) trodAll_mk0)),rfl,bel.frame _,fun h=>by cases h⟩
/-- THE STATEMENT. -/
theorem FnLapMaps_holds:Rows.FnLapMapsSaid :=
  OpenClaim.holds_of_wide 5 Tryz.f5 rfl rfl rfl rfl rfl rfl rfl ⟨rfl,rfl,rfl,rfl,rfl⟩ rfl rfl rfl rfl rfl (by kernel_rfl) Tryz.func5 (by kernel_rfl)
    (of_decide_eq_true (by kernel_rfl)) (by unfold Func.isWrapper;first | (rw[if_pos (by decide +kernel)];kernel_rfl) | (rw[if_neg (by decide +kernel)];exact⟨rfl,rfl⟩))
    (fun os started H enc _=>FnLapMaps_lifted os started H enc)
#print axioms FnLapMaps_holds
end Go.Proofs.YtcmcgkkjkaahcaaGreat
