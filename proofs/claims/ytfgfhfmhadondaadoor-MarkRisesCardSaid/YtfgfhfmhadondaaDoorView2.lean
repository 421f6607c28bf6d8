/- view: Of, First, Bytes, Sum, Many. -/
import Derived.Test.YtfgfhfmhadondaaDoorView
namespace Go.Proofs.YtfgfhfmhadondaaDoor
open Go.RowKit
set_option maxHeartbeats 400000

/-- A []Row that can be read. -/
def RowsAt (w : World) (ao : Option Addr) (n : Nat) (xs : List RowV) : Prop := xs.length = n ∧ Rd w ao (xs.flatMap RowV.cells) ∧ ∀ r ∈ xs, Bytes w r.ao r.n r.row.b ∧ r.n ≤ big
theorem RowsAt.ext {F : Nat → Prop} {w w' : World} {ao : Option Addr} {n : Nat} {xs : List RowV} (h : RowsAt w ao n xs) (e : Ext F w w') (hf : ∀ k, inA ao k → ¬ F k) (hg : ∀ r ∈ xs, ∀ k, inA r.ao k → ¬ F k) : RowsAt w' ao n xs :=
  ⟨h.1, h.2.1.ext e hf, fun r hr => ⟨(h.2.2 r hr).1.ext e (hg r hr), (h.2.2 r hr).2⟩⟩

def ofGo : List RowS → List RowS → Nat × List RowS
  | acc, [] => (0, acc)
  | acc, r :: t => if addE acc r = 0 then ofGo (acc ++ [r]) t else (addE acc r, acc)

/-- What Of hands back. -/
def OfPost (w w' : World) (o : Nat × List RowS) (e : Ending) : Prop :=
  (o.1 = 0 → ∃ q F', e = .returned (.tuple #[.pointer (some ⟨q, 0, none⟩), .int .i64 0]) ∧ ViewAt w' q o.2 F' ∧ (∀ k, F' k → w.heap.size ≤ k)) ∧
  (o.1 ≠ 0 → e = .returned (.tuple #[.pointer none, .int .i64 (o.1 : Int)]))

set_option maxRecDepth 20000 in
set_option maxHeartbeats 1000000 in
theorem vof_ok (ao : Option Addr) (n c : Nat) (xs : List RowV) (w : World) (hx : RowsAt w ao n xs) (hn : n ≤ big) :
    Calls Tryd.prog 22 #[.slice ao n c] w fun e w' => Ext nob w w' ∧ OfPost w w' (ofGo [] (xs.map RowV.row)) e := by
  have HX := Lib.hid hx
  have HN := Lib.hid hn
  clear hx hn
  go_enter Tryd.func22, Tryd.ntmps22
  go_wp2_with fail
  refine (vnew_ok w).mono ?_
  rintro e w1 ⟨rfl, g1, g2⟩
  obtain ⟨p, hp⟩ : ∃ p, p = w.heap.size := ⟨_, rfl⟩
  rw [← hp] at g1 ⊢
  have HP := Lib.hid hp
  have G1 := Lib.hid g1
  have G2 := Lib.hid g2
  clear hp g1 g2
  go_wp2_with fail
  go_loopw [11] (fun i wr => ∃ (k : Nat) (acc : List RowS) (F' : Nat → Prop), i = .int .i64 (k : Int) ∧ k ≤ n ∧ ofGo acc ((xs.map RowV.row).drop k) = ofGo [] (xs.map RowV.row) ∧ acc.length ≤ 20000 ∧ ViewAt wr p acc F' ∧ (∀ k, F' k → w.heap.size ≤ k) ∧ Ext nob w wr) (fun i _ => n - (intOf i).toNat)
  case atStart => exact ⟨0, [], fun k => k = p, rfl, by omega, rfl, by simp, G1.out, fun k hk => by rw [hk, HP.out]; exact Nat.le_refl _, G2.out⟩
  case round =>
    obtain ⟨k, acc, F', rfl, hk, ho, ha, hv, hF, he⟩ := hrel
    have HO := Lib.hid ho
    have HA := Lib.hid ha
    have HV := Lib.hid hv
    have HF := Lib.hid hF
    have HE := Lib.hid he
    clear ho ha hv hF he
    have hb : n < 4611686018427387904 := by have := HN.out; unfold big at this; omega
    by_cases hkn : k < n
    · have hki : (k : Int) < n := by omega
      obtain ⟨r, hr⟩ : ∃ r, xs[k]? = some r := ⟨xs[k]'(by rw [HX.out.1]; exact hkn), List.getElem?_eq_getElem _⟩
      obtain ⟨x1, x2, x3⟩ := HX.out.ext HE.out (fun _ _ h => h) (fun _ _ _ _ h => h)
      have hne : xs.flatMap RowV.cells ≠ [] := fun h => by have := cells_len xs; rw [h, x1] at this; simp at this; omega
      obtain ⟨g, o, rfl⟩ := x2.addr hne
      obtain ⟨c0, c1, c2, c3⟩ := row_cells x2 k r hr
      obtain ⟨y1, y2⟩ := x3 r (List.mem_of_getElem? hr)
      have hg : g < wr.heap.size := World.block_lt_of_cell? wr _ c0
      have hd : (xs.map RowV.row).drop k = r.row :: (xs.map RowV.row).drop (k + 1) := by
        rw [List.drop_eq_getElem_cons (by rw [List.length_map, x1]; exact hkn)]
        congr 1
        have := List.getElem?_eq_some_iff.1 hr
        obtain ⟨_, h⟩ := this
        simp [h]
      have HD := Lib.hid hd
      have Y1 := Lib.hid y1
      have Y2 := Lib.hid y2
      have HR := Lib.hid hr
      clear x1 x2 x3 hne y1 y2 hr hd
      go_wp2_with fail
      refine (vadd_ok p acc F' r.row r.ao r.n r.cap _ (HV.out.ext ((Ext.refl nob wr).alloc _) (fun _ _ h => h)) (Y1.out.ext ((Ext.refl nob wr).alloc _) (fun _ _ h => h)) Y2.out HA.out).mono ?_
      rintro e w2 ⟨rfl, ⟨F2, g1, g2⟩, g3⟩
      have HE2 : Hid (Ext nob w w2) := (HE.out.alloc _).trans g3 (fun i hi h => by have := HF.out i h; omega)
      have HF2 : Hid (∀ k, F2 k → w.heap.size ≤ k) := fun k hk => by
        rcases g2 k hk with h | h
        · exact HF.out k h
        · have := HE.out.size; simp at h; omega
      have K1 := Lib.hid g1
      clear g1 g2 g3
      by_cases h0 : addE acc r.row = 0
      · have h0' : (((addE acc r.row : Nat) : Int) != 0) = false := by simp [h0]
        have HO2 : Hid (ofGo (acc ++ [r.row]) ((xs.map RowV.row).drop (k + 1)) = ofGo [] (xs.map RowV.row)) := by
          have := HO.out
          rw [HD.out, ofGo, if_pos h0] at this
          exact this
        have HA2 : Hid ((acc ++ [r.row]).length ≤ 20000) := by
          have : acc.length ≠ 20000 := fun h => by unfold addE at h0; split at h0 <;> simp [h] at h0
          have h2 := HA.out
          show (acc ++ [r.row]).length ≤ 20000
          simp; omega
        have K2 : Hid (ViewAt w2 p (acc ++ [r.row]) F2) := by
          have := K1.out
          simp only [addL, if_pos h0] at this
          exact this
        clear h0
        go_wp2_with fail
        go_roundw
        case rel => exact ⟨k + 1, acc ++ [r.row], F2, by go_num, by omega, HO2.out, HA2.out, K2.out, HF2.out, HE2.out⟩
        case measure => simp [intOf]; omega
      · have h0' : (((addE acc r.row : Nat) : Int) != 0) = true := by simp; omega
        have HO2 : Hid (ofGo [] (xs.map RowV.row) = (addE acc r.row, acc)) := by
          have := HO.out
          rw [HD.out, ofGo, if_neg h0] at this
          exact this.symm
        have H0 := Lib.hid h0
        clear h0
        go_wp2_with fail
        go_ret2
        refine ⟨HE2.out, ?_⟩
        rw [HO2.out]
        exact ⟨fun h => absurd h H0.out, fun _ => rfl⟩
    · have hke : k = n := by omega
      have HO2 : Hid (ofGo [] (xs.map RowV.row) = (0, acc)) := by
        have := HO.out
        rw [List.drop_eq_nil_of_le (by rw [List.length_map, HX.out.1, hke]; exact Nat.le_refl _), ofGo] at this
        exact this.symm
      have hki : ¬ (k : Int) < n := by omega
      clear hke
      go_wp2_with fail
      go_ret2
      refine ⟨HE.out, ?_⟩
      rw [HO2.out]
      exact ⟨fun _ => ⟨p, F', rfl, HV.out, HF.out⟩, fun h => absurd rfl h⟩

theorem bequal_ok (ao bo : Option Addr) (n m c d : Nat) (a b : List UInt8) (w : World) (ha : Bytes w ao n a) (hb : Bytes w bo m b) :
    Calls Tryd.prog 115 #[.slice ao n c, .slice bo m d] w fun e w' => e = .returned (.bool (decide (a = b))) ∧ w' = w := by
  have h1 := ha.str (P := Tryd.prog) 23 9 5 c Tryd.underlying23 Tryd.underlying5 Tryd.underlying9
  have h2 := hb.str (P := Tryd.prog) 23 9 5 d Tryd.underlying23 Tryd.underlying5 Tryd.underlying9
  go_enter Tryd.func115, Tryd.ntmps115
  go_wp2_with fail
  go_ret
  refine ⟨ret_bool ?_, rfl⟩
  simp

set_option maxRecDepth 20000 in
theorem same_ok (r s : RowS) (ao bo : Option Addr) (n m c d : Nat) (w : World) (ha : Bytes w ao n r.b) (hb : Bytes w bo m s.b) :
    Calls Tryd.prog 59 #[rowV r.step r.node r.kind ao n c, rowV s.step s.node s.kind bo m d] w fun e w' => e = .returned (.bool (decide (r = s))) ∧ Ext nob w w' := by
  obtain ⟨rs, rn, rk, rb⟩ := r
  obtain ⟨ss, sn, sk, sb⟩ := s
  simp only [] at ha hb ⊢
  have HA := Lib.hid ha
  have HB := Lib.hid hb
  clear ha hb
  go_enter Tryd.func59, Tryd.ntmps59
  go_wp2_with ((go_at_call 115; refine (bequal_ok ao bo n m c d rb sb _ (HA.out.ext (((Ext.refl nob w).alloc _).alloc _) (fun _ _ h => h)) (HB.out.ext (((Ext.refl nob w).alloc _).alloc _) (fun _ _ h => h))).mono ?_; rintro e w' ⟨rfl, rfl⟩))
  all_goals go_ret
  all_goals refine ⟨ret_bool ?_, ((Ext.refl _ w).alloc _).alloc _⟩
  all_goals simp at *
  all_goals simp [*]
end Go.Proofs.YtfgfhfmhadondaaDoor
