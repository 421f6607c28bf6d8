/- MarkApart returns true for every input: for every list of arrays of two numbers; the argument reads as before. It is said of a call at which the package's tables (sealchain/sha.round, sealchain/sha.first) hold what the program's text lays; the card ties that to the text. -/
import Derived.Test.YtfgfhfmhadondaaDoorKit3
import Derived.Test.YtfgfhfmhadondaaDoorApart
namespace Go.Proofs.YtfgfhfmhadondaaDoor
open Go.ChangeShapes Go.WideShapes Go.RowKit
set_option maxHeartbeats 400000
set_option maxRecDepth 100000

theorem markApart_lifted (os : Os) (started : os.Started) (H : Type) (enc : TypeId × Value → H) :
    ReturnsInHanded {} Tryd.checked os 6 .any (fun w args => (Rows.markApartSpec.pre enc Tryd.prog Tryd.f6 [] false w args ∧ laidMetH Tryd.prog Rows.markApartRow.laid w) ∧ sizedMet enc Tryd.prog Tryd.f6 (OpenSpec.ofChange Rows.markApartSpec) false w args)
      (Rows.markApartSpec.post enc Tryd.prog Tryd.f6 false true false false) := by
  refine returnsInHanded_of_change_and (C := Tryd.checked) (X := fun w _ => laidMetH Tryd.prog Rows.markApartRow.laid w) (fun _ _ _ hh h => h.of_heap hh) own' started (by kernel_rfl) Tryd.func6
    (ChangeSpec.witness_at (enc := enc) (C := Tryd.checked) (os := os) (X := fun w _ => laidMetH Tryd.prog Rows.markApartRow.laid w) false (laidWorld os) #[.slice none 0 0] 8 rfl (by kernel_rfl) (by kernel_rfl) (by kernel_rfl) (by kernel_rfl) (by kernel_rfl) (laidWorld_met os _)) ?_
  intro W base args ds gs before hval0 hW _ hsz0 hL _
  have hval : ∀ (j : Nat) t v, Tryd.f6.params[j]? = some t → args[j]? = some v → Value.okWide Tryd.prog W .any base t v := hval0
  have hsz : (DataW.weightsEach Tryd.prog (Tryd.f6.params.toList ++ Rows.markApartSpec.plain.varTypes Tryd.prog) (ds ++ gs)).all (· ≤ reachBytes) = true := hsz0
  have hW' : DataW.Whole enc Tryd.prog Tryd.f6.params.toList Rows.markApartSpec.vars false W args.toList ds gs before := hW
  obtain ⟨p, q, hA0, hV0, -, -, -⟩ := hW
  have hA : DataW.TrodAll enc Tryd.prog W 0 (fun _ => true) true Tryd.f6.params.toList args.toList ds p := hA0
  have hV : DataW.TrodVars enc Tryd.prog W (fun _ => true) [] gs q := hV0
  obtain ⟨rfl, -⟩ : gs = [] ∧ q = [] := by
    cases gs with
    | nil => exact ⟨rfl, hV⟩
    | cons g r => exact absurd hV (by intro h; cases h)
  rw [Tryd.params6] at hA hval hsz
  have hG : Laid W := laid_of hL
  obtain ⟨v0, d0, rfl, rfl, h0⟩ := trodAll_one hA
  obtain ⟨ao, n, cap, xs, rfl, hx, -, hn⟩ := pairs_arg Tryd.underlying66 Tryd.underlying26 (by kernel_rfl) (hval 0 66 v0 rfl rfl) h0
  have hb := slice_sized hsz (j := 0) (d := d0) (t := 66) (e := 26) rfl rfl Tryd.underlying66
  rw [hn, show Tryd.prog.bytesOf 26 = 16 by kernel_rfl] at hb
  have hr := reachBytes_lt
  refine (markApart_ok ao n cap xs W hx (by omega) hG).mono ?_
  rintro e W' ⟨rfl, he⟩
  exact ⟨_, rfl, law_post (by rw [Tryd.params6]; exact of_decide_eq_true (by kernel_rfl)) (by kernel_rfl) rfl hW' rfl he⟩

theorem markApart_holds : Rows.MarkApartSaid :=
  OpenClaim.holds_of_wide 6 Tryd.f6 rfl rfl rfl rfl rfl rfl rfl ⟨rfl, rfl, rfl, rfl, rfl⟩ rfl rfl rfl rfl rfl (by kernel_rfl) Tryd.func6 (by kernel_rfl)
    (of_decide_eq_true (by kernel_rfl)) (by unfold Func.isWrapper; rw [if_neg (of_decide_eq_false (by kernel_rfl))]; exact ⟨rfl, rfl⟩)
    (fun os started H enc _ => markApart_lifted os started H enc)

theorem markApart_card : Rows.MarkApartCardSaid :=
  Claim7.holds_tied_plain_at .later [] [.data, .data] true Rows.markApartCard.stood.harness true
    markApart_holds (fun _ h => by cases h) (by kernel_rfl) (fun _ h => by cases h) markApart_row_tie rfl ⟨rfl, rfl⟩ (by kernel_rfl) rfl
    (fun f fn hf hfn => by
      obtain rfl : f = 6 := Option.some.inj ((show Tryd.prog.funcNamed "sealchain/sealchainlaw10.MarkApart" = some 6 by kernel_rfl).symm.trans hf) |>.symm
      obtain rfl : fn = Tryd.f6 := (Option.some.inj (Tryd.func6.symm.trans hfn)).symm
      refine ⟨by kernel_rfl, fun j t ht => ?_⟩
      rw [Tryd.params6] at ht
      have h3 : t = 66 := by
        rcases j with _ | j
        · simpa using ht.symm
        · simp at ht
      subst h3
      exact (show Tryd.prog.wantsStandIn 66 = false by kernel_rfl))
    (by kernel_rfl)
#print axioms markApart_card
end Go.Proofs.YtfgfhfmhadondaaDoor
