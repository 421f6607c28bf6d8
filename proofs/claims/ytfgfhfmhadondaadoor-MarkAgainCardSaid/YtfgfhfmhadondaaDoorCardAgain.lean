/- MarkAgain returns true for every input: for all bytes; the argument reads as before. It is said of a call at which the package's tables (sealchain/sha.round, sealchain/sha.first) hold what the program's text lays; the card ties that to the text. -/
import Derived.Test.YtfgfhfmhadondaaDoorKit3
import Derived.Test.YtfgfhfmhadondaaDoorAgain
namespace Go.Proofs.YtfgfhfmhadondaaDoor
open Go.ChangeShapes Go.WideShapes Go.RowKit
set_option maxHeartbeats 400000
set_option maxRecDepth 100000

theorem markAgain_lifted (os : Os) (started : os.Started) (H : Type) (enc : TypeId × Value → H) :
    ReturnsInHanded {} Tryd.checked os 10 .any (fun w args => (Rows.markAgainSpec.pre enc Tryd.prog Tryd.f10 [] false w args ∧ laidMetH Tryd.prog Rows.markAgainRow.laid w) ∧ sizedMet enc Tryd.prog Tryd.f10 (OpenSpec.ofChange Rows.markAgainSpec) false w args)
      (Rows.markAgainSpec.post enc Tryd.prog Tryd.f10 false true false false) := by
  refine returnsInHanded_of_change_and (C := Tryd.checked) (X := fun w _ => laidMetH Tryd.prog Rows.markAgainRow.laid w) (fun _ _ _ hh h => h.of_heap hh) own' started (by kernel_rfl) Tryd.func10
    (ChangeSpec.witness_at (enc := enc) (C := Tryd.checked) (os := os) (X := fun w _ => laidMetH Tryd.prog Rows.markAgainRow.laid w) false (laidWorld os) #[.slice none 0 0] 8 rfl (by kernel_rfl) (by kernel_rfl) (by kernel_rfl) (by kernel_rfl) (by kernel_rfl) (laidWorld_met os _)) ?_
  intro W base args ds gs before hval0 hW _ hsz0 hL _
  have hval : ∀ (j : Nat) t v, Tryd.f10.params[j]? = some t → args[j]? = some v → Value.okWide Tryd.prog W .any base t v := hval0
  have hsz : (DataW.weightsEach Tryd.prog (Tryd.f10.params.toList ++ Rows.markAgainSpec.plain.varTypes Tryd.prog) (ds ++ gs)).all (· ≤ reachBytes) = true := hsz0
  have hW' : DataW.Whole enc Tryd.prog Tryd.f10.params.toList Rows.markAgainSpec.vars false W args.toList ds gs before := hW
  obtain ⟨p, q, hA0, hV0, -, -, -⟩ := hW
  have hA : DataW.TrodAll enc Tryd.prog W 0 (fun _ => true) true Tryd.f10.params.toList args.toList ds p := hA0
  have hV : DataW.TrodVars enc Tryd.prog W (fun _ => true) [] gs q := hV0
  obtain ⟨rfl, -⟩ : gs = [] ∧ q = [] := by
    cases gs with
    | nil => exact ⟨rfl, hV⟩
    | cons g r => exact absurd hV (by intro h; cases h)
  rw [Tryd.params10] at hA hval hsz
  have hG : Laid W := laid_of hL
  obtain ⟨v0, d0, rfl, rfl, h0⟩ := trodAll_one hA
  obtain ⟨ao, n, cap, xs, rfl, hx, hnc, hn⟩ := bytes_arg (hval 0 23 v0 rfl rfl) h0
  have hb := slice_sized hsz (j := 0) (d := d0) (t := 23) (e := 5) rfl rfl Tryd.underlying23
  rw [hn, show Tryd.prog.bytesOf 5 = 1 by kernel_rfl] at hb
  have hr := reachBytes_lt
  refine (markAgain_ok ao n cap xs W hx hnc (by omega) hG).mono ?_
  rintro e W' ⟨rfl, he⟩
  exact ⟨_, rfl, law_post (by rw [Tryd.params10]; exact of_decide_eq_true (by kernel_rfl)) (by kernel_rfl) rfl hW' rfl he⟩

theorem markAgain_holds : Rows.MarkAgainSaid :=
  OpenClaim.holds_of_wide 10 Tryd.f10 rfl rfl rfl rfl rfl rfl rfl ⟨rfl, rfl, rfl, rfl, rfl⟩ rfl rfl rfl rfl rfl (by kernel_rfl) Tryd.func10 (by kernel_rfl)
    (of_decide_eq_true (by kernel_rfl)) (by unfold Func.isWrapper; rw [if_neg (of_decide_eq_false (by kernel_rfl))]; exact ⟨rfl, rfl⟩)
    (fun os started H enc _ => markAgain_lifted os started H enc)

theorem markAgain_card : Rows.MarkAgainCardSaid :=
  Claim7.holds_tied_plain_at .later [] [.data, .data] true Rows.markAgainCard.stood.harness true
    markAgain_holds (fun _ h => by cases h) (by kernel_rfl) (fun _ h => by cases h) markAgain_row_tie rfl ⟨rfl, rfl⟩ (by kernel_rfl) rfl
    (fun f fn hf hfn => by
      obtain rfl : f = 10 := Option.some.inj ((show Tryd.prog.funcNamed "sealchain/sealchainlaw10.MarkAgain" = some 10 by kernel_rfl).symm.trans hf) |>.symm
      obtain rfl : fn = Tryd.f10 := (Option.some.inj (Tryd.func10.symm.trans hfn)).symm
      refine ⟨by kernel_rfl, fun j t ht => ?_⟩
      rw [Tryd.params10] at ht
      have h3 : t = 23 := by
        rcases j with _ | j
        · simpa using ht.symm
        · simp at ht
      subst h3
      exact (show Tryd.prog.wantsStandIn 23 = false by kernel_rfl))
    (by kernel_rfl)
#print axioms markAgain_card
end Go.Proofs.YtfgfhfmhadondaaDoor
