/- mark: what Bytes tells hangs on what was noted alone, not on the order in which the range took the names. -/
import Derived.Test.YtfgfhfmhadondaaDoorMarkH
namespace Go.Proofs.YtfgfhfmhadondaaDoor
open Go.RowKit Go.Maps Go.Shelf Go.Lib Go.Sort
set_option maxHeartbeats 400000

theorem leN (x y : NameS) : (!(ltOf cfN) y x) = decide (x.1 ≤ y.1) := by
  rw [ltN]
  by_cases h : y.1 < x.1
  · have : ¬ x.1 ≤ y.1 := fun e => List.not_lt.2 e h
    simp [h, this]
  · have : x.1 ≤ y.1 := List.not_lt.1 h
    simp [h, this]
theorem sortL_of_perm {L L' : List NameS} (h : L.Perm L') : sortL L = sortL L' := by
  have tr : ∀ a b c : NameS, (!(ltOf cfN) b a) = true → (!(ltOf cfN) c b) = true → (!(ltOf cfN) c a) = true := fun a b c h1 h2 => by
    rw [leN] at *
    simp only [decide_eq_true_eq] at *
    exact List.le_trans h1 h2
  have tot : ∀ a b : NameS, ((!(ltOf cfN) b a) || (!(ltOf cfN) a b)) = true := fun a b => by
    rw [leN, leN]
    simp only [Bool.or_eq_true, decide_eq_true_eq]
    exact List.le_total a.1 b.1
  refine List.Perm.eq_of_pairwise (le := fun a b => (!(ltOf cfN) b a) = true) (fun a b _ _ h1 h2 => ?_) (List.pairwise_mergeSort tr tot L) (List.pairwise_mergeSort tr tot L') ((List.mergeSort_perm L _).trans (h.trans (List.mergeSort_perm L' _).symm))
  rw [leN] at h1 h2
  simp only [decide_eq_true_eq] at h1 h2
  exact Subtype.ext (List.le_antisymm h1 h2)
theorem nodup_of_map {L : List NameS} (h : (L.map (fun x : NameS => x.1)).Nodup) : L.Nodup := by
  rw [List.Nodup, List.pairwise_map] at h
  exact h.imp (fun h e => h (by rw [e]))
theorem sortL_unique {L L' : List NameS} (hn : (L.map (fun x : NameS => x.1)).Nodup) (hn' : (L'.map (fun x : NameS => x.1)).Nodup) (h : ∀ n, n ∈ L.map (fun x : NameS => x.1) ↔ n ∈ L'.map (fun x : NameS => x.1)) : sortL L = sortL L' := by
  refine sortL_of_perm ((List.perm_ext_iff_of_nodup (nodup_of_map hn) (nodup_of_map hn')).2 fun x => ?_)
  have h1 : ∀ M : List NameS, x ∈ M ↔ x.1 ∈ M.map (fun x : NameS => x.1) := fun M => by
    rw [List.mem_map]
    exact ⟨fun hx => ⟨x, hx, rfl⟩, fun ⟨y, hy, e⟩ => by rw [← Subtype.ext e]; exact hy⟩
  rw [h1 L, h1 L', h x.1]

open Classical in
/-- The names of what was noted, rising. -/
noncomputable def namesD (D : DataW Unit) : List NameS :=
  if h : ∃ L : List NameS, (L.map (fun x : NameS => x.1)).Nodup ∧ (∀ n, n ∈ L.map (fun x : NameS => x.1) ↔ hasD D n = true) then sortL h.choose else []
theorem namesD_eq {D : DataW Unit} {L : List NameS} (hn : (L.map (fun x : NameS => x.1)).Nodup) (hm : ∀ n, n ∈ L.map (fun x : NameS => x.1) ↔ hasD D n = true) : sortL L = namesD D := by
  have h : ∃ L : List NameS, (L.map (fun x : NameS => x.1)).Nodup ∧ (∀ n, n ∈ L.map (fun x : NameS => x.1) ↔ hasD D n = true) := ⟨L, hn, hm⟩
  unfold namesD
  rw [dif_pos h]
  exact sortL_unique hn h.choose_spec.1 (fun n => (hm n).trans (h.choose_spec.2 n).symm)
noncomputable def marksB (life epoch : Nat) (D : DataW Unit) : List UInt8 := marksL life epoch D (namesD D)

theorem mbytesD_ok (p b life epoch : Nat) (D : DataW Unit) (w : World) (h : MarksAt w p b life epoch D) (hs : Maps.size D ≤ 64) (hlf : life ≤ 1048576) (hep : epoch < 256) (hver : ∀ n, 0 ≤ verD D n ∧ verD D n ≤ 9007199254740991) :
    Calls Tryd.prog 33 #[.pointer (some ⟨p, 0, none⟩)] w fun e w' => ∃ ao n cap, e = .returned (.slice ao n cap) ∧ Bytes w' ao n (marksB life epoch D) ∧ Ext nob w w' ∧ (∀ k, inA ao k → w.heap.size ≤ k) := by
  refine (mbytes_ok p b life epoch D w h hs hlf hep hver).mono ?_
  rintro e w' ⟨v, L, rfl, hn, hm, ho, he, hf⟩
  rw [namesD_eq hn hm] at ho
  obtain ⟨ao, cap, rfl, r1, -, -, r4⟩ := Own.shape ho
  exact ⟨ao, _, cap, rfl, ⟨rfl, r1⟩, he, fun k hk => hf k (r4 k hk)⟩
end Go.Proofs.YtfgfhfmhadondaaDoor
