/- sealchainlaw24: the statements' own small functions. -/
import Derived.Test.YtfgfhfmhadondaaDoorView4
import Derived.Test.YtfgfhfmhadondaaDoorViewM
namespace Go.Proofs.YtfgfhfmhadondaaDoor
open Go.RowKit
set_option maxHeartbeats 400000

theorem lrow_ok (s nd k : Int) (ao : Option Addr) (n c : Nat) (w : World) :
    Calls Tryd.prog 48 #[.int .i64 s, .int .i64 nd, .int .i64 k, .slice ao n c] w fun e w' => e = .returned (rowV s nd k ao n c) ∧ Ext nob w w' := by
  go_enter Tryd.func48, Tryd.ntmps48
  go_wp2_with fail
  refine ret_row 8 34 rfl w.heap.size rfl 34 #[.int .i64 s, .int .i64 nd, .int .i64 k, .slice ao n c] (0, 0) ?_ _ Tryd.underlying34 rfl (by kernel_rfl) rfl ⟨rfl, ?_⟩
  · exact blk_new w _
  · exact (Ext.refl _ w).alloc _

theorem eqb_ok (ao bo : Option Addr) (n m c d : Nat) (a b : List UInt8) (w : World) (ha : Bytes w ao n a) (hb : Bytes w bo m b) :
    Calls Tryd.prog 15 #[.slice ao n c, .slice bo m d] w fun e w' => e = .returned (.bool (decide (a = b))) ∧ w = w' := by
  have h1 := ha.str (P := Tryd.prog) 23 9 5 c Tryd.underlying23 Tryd.underlying5 Tryd.underlying9
  have h2 := hb.str (P := Tryd.prog) 23 9 5 d Tryd.underlying23 Tryd.underlying5 Tryd.underlying9
  go_enter Tryd.func15, Tryd.ntmps15
  go_wp2_with fail
  go_ret
  refine ⟨ret_bool ?_, rfl⟩
  simp

theorem tmod_emod (x : Int) (m : Nat) (hm : 0 < m) : x % (m : Int) = if x.tmod m < 0 then x.tmod m + m else x.tmod m := by
  have h1 := Int.tmod_lt_of_pos x (show (0 : Int) < m by omega)
  have h2 := Int.lt_tmod_of_pos x (show (0 : Int) < m by omega)
  have h3 : x % (m : Int) = x.tmod m % (m : Int) := by
    conv => lhs; rw [← Int.mul_tdiv_add_tmod x m]
    rw [Int.add_comm, Int.add_mul_emod_self_left]
  rw [h3]
  split
  · rw [← Int.add_emod_right, Int.emod_eq_of_lt (by omega) (by omega)]
  · exact Int.emod_eq_of_lt (by omega) h1

/-- Bring: an int brought into 0 .. m-1. -/
theorem bring_ok (x : Int) (m : Nat) (hm : 0 < m) (hm2 : m < 1000000) (w : World) :
    Calls Tryd.prog 14 #[.int .i64 x, .int .i64 (m : Int)] w fun e w' => e = .returned (.int .i64 (x % (m : Int))) ∧ w = w' := by
  have h1 := Int.tmod_lt_of_pos x (show (0 : Int) < m by omega)
  have h2 := Int.lt_tmod_of_pos x (show (0 : Int) < m by omega)
  have h3 := tmod_emod x m hm
  by_cases h0 : x.tmod m < 0
  · rw [if_pos h0] at h3
    have H3 := Lib.hid h3
    clear h3
    go_enter Tryd.func14, Tryd.ntmps14
    go_wp2_with fail
    go_ret
    rw [H3.out]
    exact ⟨rfl, rfl⟩
  · rw [if_neg h0] at h3
    have H3 := Lib.hid h3
    clear h3
    go_enter Tryd.func14, Tryd.ntmps14
    go_wp2_with fail
    go_ret
    rw [H3.out]
    exact ⟨rfl, rfl⟩

theorem lof_ok (ao : Option Addr) (n c : Nat) (xs : List RowV) (w : World) (hx : RowsAt w ao n xs) (hn : n ≤ big) :
    Calls Tryd.prog 13 #[.slice ao n c] w fun e w' => Ext nob w w' ∧
      ((ofGo [] (xs.map RowV.row)).1 = 0 → ∃ q F', e = .returned (.pointer (some ⟨q, 0, none⟩)) ∧ ViewAt w' q (ofGo [] (xs.map RowV.row)).2 F' ∧ (∀ k, F' k → w.heap.size ≤ k)) := by
  have HX := Lib.hid hx
  obtain ⟨o, ho⟩ : ∃ o, o = ofGo [] (xs.map RowV.row) := ⟨_, rfl⟩
  rw [← ho]
  have HO := Lib.hid ho
  clear hx ho
  go_enter Tryd.func13, Tryd.ntmps13
  go_wp2_with fail
  refine (vof_ok ao n c xs w HX.out hn).mono ?_
  rintro e w1 ⟨g1, g2⟩
  rw [← HO.out] at g2
  obtain ⟨p1, p2⟩ := g2
  have G1 := Lib.hid g1
  have P1 := Lib.hid p1
  by_cases h0 : o.1 = 0
  · obtain ⟨q, F', rfl, k1, k2⟩ := p1 h0
    have K1 := Lib.hid k1
    have K2 := Lib.hid k2
    clear g1 p1 p2 k1 k2 P1 h0
    go_wp2_with fail
    go_ret
    exact ⟨G1.out, fun _ => ⟨q, F', rfl, K1.out, K2.out⟩⟩
  · obtain rfl := p2 h0
    have h0' : (((o.1 : Nat) : Int) != 0) = true := by simp; omega
    have H0 := Lib.hid h0
    clear g1 p1 p2 h0
    go_wp2_with fail
    go_ret
    exact ⟨G1.out, fun h => absurd h H0.out⟩

theorem nodes_ok (w : World) : Calls Tryd.prog 52 #[] w fun e w' => e = .returned (.slice (some ⟨w.heap.size, 0, none⟩) 7 7) ∧
    w' = w.alloc (.cells #[.int .i64 0, .int .i64 1, .int .i64 2, .int .i64 10, .int .i64 11, .int .i64 12, .int .i64 13] 3) := by
  go_enter Tryd.func52, Tryd.ntmps52
  go_wp2_with fail
  go_ret
  exact ⟨rfl, rfl⟩
end Go.Proofs.YtfgfhfmhadondaaDoor
