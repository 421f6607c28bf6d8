/- MarkLasts returns true for every input: for every list of arrays of three numbers; the argument reads as before. It is said of a call at which the package's tables (sealchain/sha.round, sealchain/sha.first) hold what the program's text lays; the card ties that to the text. -/
import Derived.Test.YtfgfhfmhadondaaDoorKit3
import Derived.Test.YtfgfhfmhadondaaDoorLasts
namespace Go.Proofs.YtfgfhfmhadondaaDoor
open Go.ChangeShapes Go.WideShapes Go.RowKit
set_option maxHeartbeats 400000
set_option maxRecDepth 100000

theorem markLasts_lifted (os : Os) (started : os.Started) (H : Type) (enc : TypeId × Value → H) :
    ReturnsInHanded {} Tryd.checked os 5 .any (fun w args => (Rows.markLastsSpec.pre enc Tryd.prog Tryd.f5 [] false w args ∧ laidMetH Tryd.prog Rows.markLastsRow.laid w) ∧ sizedMet enc Tryd.prog Tryd.f5 (OpenSpec.ofChange Rows.markLastsSpec) false w args)
      (Rows.markLastsSpec.post enc Tryd.prog Tryd.f5 false true false false) := by
  refine returnsInHanded_of_change_and (C := Tryd.checked) (X := fun w _ => laidMetH Tryd.prog Rows.markLastsRow.laid w) (fun _ _ _ hh h => h.of_heap hh) own' started (by kernel_rfl) Tryd.func5
    (ChangeSpec.witness_at (enc := enc) (C := Tryd.checked) (os := os) (X := fun w _ => laidMetH Tryd.prog Rows.markLastsRow.laid w) false (laidWorld os) #[.slice none 0 0] 8 rfl (by kernel_rfl) (by kernel_rfl) (by kernel_rfl) (by kernel_rfl) (by kernel_rfl) (laidWorld_met os _)) ?_
  intro W base args ds gs before hval0 hW _ hsz0 hL _
  have hval : ∀ (j : Nat) t v, Tryd.f5.params[j]? = some t → args[j]? = some v → Value.okWide Tryd.prog W .any base t v := hval0
  have hsz : (DataW.weightsEach Tryd.prog (Tryd.f5.params.toList ++ Rows.markLastsSpec.plain.varTypes Tryd.prog) (ds ++ gs)).all (· ≤ reachBytes) = true := hsz0
  have hW' : DataW.Whole enc Tryd.prog Tryd.f5.params.toList Rows.markLastsSpec.vars false W args.toList ds gs before := hW
  obtain ⟨p, q, hA0, hV0, -, -, -⟩ := hW
  have hA : DataW.TrodAll enc Tryd.prog W 0 (fun _ => true) true Tryd.f5.params.toList args.toList ds p := hA0
  have hV : DataW.TrodVars enc Tryd.prog W (fun _ => true) [] gs q := hV0
  obtain ⟨rfl, -⟩ : gs = [] ∧ q = [] := by
    cases gs with
    | nil => exact ⟨rfl, hV⟩
    | cons g r => exact absurd hV (by intro h; cases h)
  rw [Tryd.params5] at hA hval hsz
  have hG : Laid W := laid_of hL
  obtain ⟨v0, d0, rfl, rfl, h0⟩ := trodAll_one hA
  obtain ⟨ao, n, cap, xs, rfl, hx, -, hn⟩ := trips_arg Tryd.underlying52 Tryd.underlying56 (by kernel_rfl) (hval 0 52 v0 rfl rfl) h0
  have hb := slice_sized hsz (j := 0) (d := d0) (t := 52) (e := 56) rfl rfl Tryd.underlying52
  rw [hn, show Tryd.prog.bytesOf 56 = 24 by kernel_rfl] at hb
  have hr := reachBytes_lt
  refine (markLasts_ok ao n cap xs W hx (by omega) hG).mono ?_
  rintro e W' ⟨rfl, he⟩
  exact ⟨_, rfl, law_post (by rw [Tryd.params5]; exact of_decide_eq_true (by kernel_rfl)) (by kernel_rfl) rfl hW' rfl he⟩

theorem markLasts_holds : Rows.MarkLastsSaid :=
  OpenClaim.holds_of_wide 5 Tryd.f5 rfl rfl rfl rfl rfl rfl rfl ⟨rfl, rfl, rfl, rfl, rfl⟩ rfl rfl rfl rfl rfl (by kernel_rfl) Tryd.func5 (by kernel_rfl)
    (of_decide_eq_true (by kernel_rfl)) (by unfold Func.isWrapper; rw [if_neg (of_decide_eq_false (by kernel_rfl))]; exact ⟨rfl, rfl⟩)
    (fun os started H enc _ => markLasts_lifted os started H enc)

theorem markLasts_card : Rows.MarkLastsCardSaid :=
  Claim7.holds_tied_plain_at .later [] [.data, .data] true Rows.markLastsCard.stood.harness true
    markLasts_holds (fun _ h => by cases h) (by kernel_rfl) (fun _ h => by cases h) markLasts_row_tie rfl ⟨rfl, rfl⟩ (by kernel_rfl) rfl
    (fun f fn hf hfn => by
      obtain rfl : f = 5 := Option.some.inj ((show Tryd.prog.funcNamed "sealchain/sealchainlaw10.MarkLasts" = some 5 by kernel_rfl).symm.trans hf) |>.symm
      obtain rfl : fn = Tryd.f5 := (Option.some.inj (Tryd.func5.symm.trans hfn)).symm
      refine ⟨by kernel_rfl, fun j t ht => ?_⟩
      rw [Tryd.params5] at ht
      have h3 : t = 52 := by
        rcases j with _ | j
        · simpa using ht.symm
        · simp at ht
      subst h3
      exact (show Tryd.prog.wantsStandIn 52 = false by kernel_rfl))
    (by kernel_rfl)
#print axioms markLasts_card
end Go.Proofs.YtfgfhfmhadondaaDoor
