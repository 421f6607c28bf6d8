/- ViewSame returns true for every input: for every list of seeds, every other seed, every place; the arguments read as before. It is said of a call at which the package's tables (sealchain/sha.round, sealchain/sha.first) hold what the program's text lays; the card ties that to the text. -/
import Derived.Test.YtfgfhfmhadondaaDoorKit2
import Derived.Test.YtfgfhfmhadondaaDoorSame24
namespace Go.Proofs.YtfgfhfmhadondaaDoor
open Go.ChangeShapes Go.WideShapes Go.RowKit
set_option maxHeartbeats 400000
set_option maxRecDepth 100000

theorem viewSame_lifted (os : Os) (started : os.Started) (H : Type) (enc : TypeId × Value → H) :
    ReturnsInHanded {} Tryd.checked os 3 .any (fun w args => (Rows.viewSameSpec.pre enc Tryd.prog Tryd.f3 [] false w args ∧ laidMetH Tryd.prog Rows.viewSameRow.laid w) ∧ sizedMet enc Tryd.prog Tryd.f3 (OpenSpec.ofChange Rows.viewSameSpec) false w args)
      (Rows.viewSameSpec.post enc Tryd.prog Tryd.f3 false true false false) := by
  refine returnsInHanded_of_change_and (C := Tryd.checked) (X := fun w _ => laidMetH Tryd.prog Rows.viewSameRow.laid w) (fun _ _ _ hh h => h.of_heap hh) own' started (by kernel_rfl) Tryd.func3
    (ChangeSpec.witness_at (enc := enc) (C := Tryd.checked) (os := os) (X := fun w _ => laidMetH Tryd.prog Rows.viewSameRow.laid w) false (laidWorld os) #[.slice none 0 0, .agg #[.int .i64 0, .int .i64 0, .int .i64 0, .slice none 0 0], .agg #[.int .i64 0, .int .i64 0]] 8 rfl (by kernel_rfl) (by kernel_rfl) (by kernel_rfl) (by kernel_rfl) (by kernel_rfl) (laidWorld_met os _)) ?_
  intro W base args ds gs before hval0 hW _ hsz0 hL _
  have hval : ∀ (j : Nat) t v, Tryd.f3.params[j]? = some t → args[j]? = some v → Value.okWide Tryd.prog W .any base t v := hval0
  have hsz : (DataW.weightsEach Tryd.prog (Tryd.f3.params.toList ++ Rows.viewSameSpec.plain.varTypes Tryd.prog) (ds ++ gs)).all (· ≤ reachBytes) = true := hsz0
  have hW' : DataW.Whole enc Tryd.prog Tryd.f3.params.toList Rows.viewSameSpec.vars false W args.toList ds gs before := hW
  obtain ⟨p, q, hA0, hV0, -, -, -⟩ := hW
  have hA : DataW.TrodAll enc Tryd.prog W 0 (fun _ => true) true Tryd.f3.params.toList args.toList ds p := hA0
  have hV : DataW.TrodVars enc Tryd.prog W (fun _ => true) [] gs q := hV0
  obtain ⟨rfl, -⟩ : gs = [] ∧ q = [] := by
    cases gs with
    | nil => exact ⟨rfl, hV⟩
    | cons g r => exact absurd hV (by intro h; cases h)
  rw [Tryd.params3] at hA hval hsz
  have hG : Laid W := laid_of hL
  obtain ⟨v0, v1, v2, d0, d1, d2, p0, p1, p2, rfl, rfl, -, h0, h1, h2⟩ := trodAll_three hA
  obtain ⟨ao, n, cap, xs, rfl, hx, -, hn⟩ := rows_arg Tryd.underlying22 Tryd.underlying25 (by kernel_rfl) ⟨rfl, rfl⟩ ⟨rfl, rfl⟩ ⟨rfl, rfl⟩ ⟨rfl, rfl⟩ (hval 0 22 v0 rfl rfl) h0
  obtain ⟨o, rfl, ho⟩ := row_arg Tryd.underlying25 (by kernel_rfl) ⟨rfl, rfl⟩ ⟨rfl, rfl⟩ ⟨rfl, rfl⟩ ⟨rfl, rfl⟩ (hval 1 25 v1 rfl rfl) h1
  obtain ⟨t0, t1, rfl⟩ := two_arg Tryd.underlying26 (by kernel_rfl) (hval 2 26 v2 rfl rfl) h2
  have hb := slice_sized hsz (j := 0) (d := d0) (t := 22) (e := 25) rfl rfl Tryd.underlying22
  rw [hn, show Tryd.prog.bytesOf 25 = 48 by kernel_rfl] at hb
  have hr := reachBytes_lt
  refine (viewSame_ok ao n cap xs o t0 t1 W hx (by omega) ho hG).mono ?_
  rintro e W' ⟨rfl, he⟩
  exact ⟨_, rfl, law_post (by rw [Tryd.params3]; exact of_decide_eq_true (by kernel_rfl)) (by kernel_rfl) rfl hW' rfl he⟩

theorem viewSame_holds : Rows.ViewSameSaid :=
  OpenClaim.holds_of_wide 3 Tryd.f3 rfl rfl rfl rfl rfl rfl rfl ⟨rfl, rfl, rfl, rfl, rfl⟩ rfl rfl rfl rfl rfl (by kernel_rfl) Tryd.func3 (by kernel_rfl)
    (of_decide_eq_true (by kernel_rfl)) (by unfold Func.isWrapper; rw [if_neg (of_decide_eq_false (by kernel_rfl))]; exact ⟨rfl, rfl⟩)
    (fun os started H enc _ => viewSame_lifted os started H enc)

theorem viewSame_card : Rows.ViewSameCardSaid :=
  Claim7.holds_tied_plain_at .later [] [.data, .data] true Rows.viewSameCard.stood.harness true
    viewSame_holds (fun _ h => by cases h) (by kernel_rfl) (fun _ h => by cases h) viewSame_row_tie rfl ⟨rfl, rfl⟩ (by kernel_rfl) rfl
    (fun f fn hf hfn => by
      obtain rfl : f = 3 := Option.some.inj ((show Tryd.prog.funcNamed "sealchain/sealchainlaw24.ViewSame" = some 3 by kernel_rfl).symm.trans hf) |>.symm
      obtain rfl : fn = Tryd.f3 := (Option.some.inj (Tryd.func3.symm.trans hfn)).symm
      refine ⟨by kernel_rfl, fun j t ht => ?_⟩
      rw [Tryd.params3] at ht
      have h3 : t = 22 ∨ t = 25 ∨ t = 26 := by
        rcases j with _ | _ | _ | j
        · left; simpa using ht.symm
        · right; left; simpa using ht.symm
        · right; right; simpa using ht.symm
        · simp at ht
      rcases h3 with rfl | rfl | rfl
      · exact (show Tryd.prog.wantsStandIn 22 = false by kernel_rfl)
      · exact (show Tryd.prog.wantsStandIn 25 = false by kernel_rfl)
      · exact (show Tryd.prog.wantsStandIn 26 = false by kernel_rfl))
    (by kernel_rfl)
#print axioms viewSame_card
end Go.Proofs.YtfgfhfmhadondaaDoor
