/- sealchainref00: Bring, EqBytes; a stronger S within a drawn region. -/
import Derived.Test.YtfgfhfmhadondaaDoorNum2
import Derived.Deep.RegionHeld3
import Derived.Lib.Hide
namespace Go.Proofs.YtfgfhfmhadondaaDoor
open Go.RowKit
set_option maxHeartbeats 400000

theorem ret_bool {x y : Bool} (h : x = true ↔ y = true) : Ending.returned (.bool x) = Ending.returned (.bool y) := by rw [Bool.eq_iff_iff.2 h]

theorem eqb_ok (ao bo : Option Addr) (n m c d : Nat) (a b : List UInt8) (w : World) (ha : Bytes w ao n a) (hb : Bytes w bo m b) :
    Calls Tryd.prog 15 #[.slice ao n c, .slice bo m d] w fun e w' => e = .returned (.bool (decide (a = b))) ∧ w = w' := by
  have h1 := ha.str (P := Tryd.prog) 23 9 5 c Tryd.underlying23 Tryd.underlying5 Tryd.underlying9
  have h2 := hb.str (P := Tryd.prog) 23 9 5 d Tryd.underlying23 Tryd.underlying5 Tryd.underlying9
  go_enter Tryd.func15, Tryd.ntmps15
  go_wp2_with fail
  go_ret
  refine ⟨ret_bool ?_, rfl⟩
  simp

theorem tmod_emod (x : Int) (m : Nat) (hm : 0 < m) : x % (m : Int) = if x.tmod m < 0 then x.tmod m + m else x.tmod m := by
  have h1 := Int.tmod_lt_of_pos x (show (0 : Int) < m by omega)
  have h2 := Int.lt_tmod_of_pos x (show (0 : Int) < m by omega)
  have h3 : x % (m : Int) = x.tmod m % (m : Int) := by
    conv => lhs; rw [← Int.mul_tdiv_add_tmod x m]
    rw [Int.add_comm, Int.add_mul_emod_self_left]
  rw [h3]
  split
  · rw [← Int.add_emod_right, Int.emod_eq_of_lt (by omega) (by omega)]
  · exact Int.emod_eq_of_lt (by omega) h1

/-- Bring: an int brought into 0 .. m-1. -/
theorem bring_ok (x : Int) (m : Nat) (hm : 0 < m) (hm2 : m < 1000000) (w : World) :
    Calls Tryd.prog 14 #[.int .i64 x, .int .i64 (m : Int)] w fun e w' => e = .returned (.int .i64 (x % (m : Int))) ∧ w = w' := by
  have h1 := Int.tmod_lt_of_pos x (show (0 : Int) < m by omega)
  have h2 := Int.lt_tmod_of_pos x (show (0 : Int) < m by omega)
  have h3 := tmod_emod x m hm
  by_cases h0 : x.tmod m < 0
  · rw [if_pos h0] at h3
    have H3 := Lib.hid h3
    clear h3
    go_enter Tryd.func14, Tryd.ntmps14
    go_wp2_with fail
    go_ret
    rw [H3.out]
    exact ⟨rfl, rfl⟩
  · rw [if_neg h0] at h3
    have H3 := Lib.hid h3
    clear h3
    go_enter Tryd.func14, Tryd.ntmps14
    go_wp2_with fail
    go_ret
    rw [H3.out]
    exact ⟨rfl, rfl⟩

theorem bring_nat (x : Int) (m : Nat) (M : Int) (hM : M = (m : Int)) (hm : 0 < m) (hm2 : m < 1000000) (j : Nat) (hj : x % (m : Int) = (j : Int)) (w : World) :
    Calls Tryd.prog 14 #[.int .i64 x, .int .i64 M] w fun e w' => e = .returned (.int .i64 (j : Int)) ∧ w = w' := by
  subst hM
  refine (bring_ok x m hm hm2 w).mono ?_
  rintro e w' ⟨rfl, h⟩
  rw [hj]
  exact ⟨rfl, h⟩

theorem wpAnyH_strong {P : Program} {md : Region.Mode} {ops : Array Oper} {Q : Exit → Act → World → Prop} {S S2 : World → Prop} (h : ∀ w, S2 w → S w) : ∀ {fuel : Nat} {listed : Array Bool} {a : Act} {w : World}, wpAnyH P md ops Q S2 fuel listed a w → wpAnyH P md ops Q S fuel listed a w
  | 0, _, _, _, hh => hh
  | _ + 1, _, _, _, hh => ⟨hh.1, fun i hi => wpOp_mono (fun _ _ h' => ⟨h _ h'.1, wpAnyH_strong h h'.2⟩) (hh.2 i hi)⟩

/-- A writer that stands beside a block Z. -/
structure WS (w w1 : World) (P : Nat) (A : List UInt8) (F : Nat → Prop) (Z : Nat) : Prop where
  wr : Writer w1 P A F
  ext : Ext nob w w1
  far : ∀ j, F j → w.heap.size ≤ j
  nz : ¬ F Z
  lt : Z < w1.heap.size
theorem WS.drew {w w1 : World} {P : Nat} {A : List UInt8} {F : Nat → Prop} {Z : Nat} (h : WS w w1 P A F Z) : Writer w1.drew P A F := h.wr.ext (((Ext.refl nob w1)).drew) (fun _ _ h => h)
theorem WS.step {w w1 w2 : World} {P : Nat} {A B : List UInt8} {F : Nat → Prop} {Z : Nat} {e : Ending} (h : WS w w1 P A F Z) (hq : Wrote w1.drew P B F e w2) :
    e = .returned (.pointer (some ⟨P, 0, none⟩)) ∧ ∃ F', WS w w2 P B F' Z ∧ Ext F w1 w2 := by
  obtain ⟨rfl, F', g1, g2, g3⟩ := hq
  have g2 := Ext.undrew g2
  refine ⟨rfl, F', ⟨g1, h.ext.trans g2 (fun j hj hf => by have := h.far j hf; omega), fun j hj => ?_, fun hz => ?_, Nat.lt_of_lt_of_le h.lt g2.size⟩, g2⟩
  · rcases g3 j hj with h' | h'
    · exact h.far j h'
    · have := h.ext.size
      have : w1.heap.size ≤ j := h'
      omega
  · rcases g3 Z hz with h' | h'
    · exact h.nz h'
    · have : w1.heap.size ≤ Z := h'
      have := h.lt
      omega

theorem WS.step' {w w1 w2 : World} {P : Nat} {A B : List UInt8} {F : Nat → Prop} {Z : Nat} {e : Ending} (h : WS w w1 P A F Z) (hq : Wrote w1 P B F e w2) :
    e = .returned (.pointer (some ⟨P, 0, none⟩)) ∧ ∃ F', WS w w2 P B F' Z ∧ Ext F w1 w2 := by
  refine h.step ?_
  obtain ⟨rfl, F', g1, g2, g3⟩ := hq
  exact ⟨rfl, F', g1, ⟨g2.os, g2.tape, g2.output, g2.size, g2.block⟩, g3⟩
end Go.Proofs.YtfgfhfmhadondaaDoor
