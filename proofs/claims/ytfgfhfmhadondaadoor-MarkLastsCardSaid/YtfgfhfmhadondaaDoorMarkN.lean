/- sealchainlaw10: lists of small arrays; name and env at small numbers. -/
import Derived.Test.YtfgfhfmhadondaaDoorMarkL
import Derived.Test.YtfgfhfmhadondaaDoorMarkM
namespace Go.Proofs.YtfgfhfmhadondaaDoor
open Go.RowKit Go.Maps
set_option maxHeartbeats 400000

theorem flat_at {α : Type} (f : α → List Value) (m : Nat) (hf : ∀ x, (f x).length = m) : ∀ (xs : List α) (q : Nat) (x : α), xs[q]? = some x → ∀ s, s < m → (xs.flatMap f)[q * m + s]? = (f x)[s]?
  | [], _, _, h, _, _ => by simp at h
  | y :: t, 0, x, h, s, hs => by
    have : y = x := by simpa using h
    subst this
    rw [List.flatMap_cons, Nat.zero_mul, Nat.zero_add, List.getElem?_append_left (by rw [hf]; exact hs)]
  | y :: t, q + 1, x, h, s, hs => by
    rw [List.flatMap_cons, List.getElem?_append_right (by rw [hf, Nat.succ_mul]; omega), hf, show (q + 1) * m + s - m = q * m + s by rw [Nat.succ_mul]; omega]
    exact flat_at f m hf t q x (by simpa using h) s hs
theorem flat_len {α : Type} (f : α → List Value) (m : Nat) (hf : ∀ x, (f x).length = m) : ∀ (xs : List α), (xs.flatMap f).length = xs.length * m
  | [] => by simp
  | y :: t => by rw [List.flatMap_cons, List.length_append, hf, flat_len f m hf t, List.length_cons, Nat.succ_mul]; omega
abbrev Trip := Int × Int × Int
def tripC (t : Trip) : List Value := [.int .i64 t.1, .int .i64 t.2.1, .int .i64 t.2.2]
/-- A [][3]int that can be read. -/
def TripsAt (w : World) (ao : Option Addr) (n : Nat) (xs : List Trip) : Prop := xs.length = n ∧ Rd w ao (xs.flatMap tripC)
theorem TripsAt.ext {F : Nat → Prop} {w w' : World} {ao : Option Addr} {n : Nat} {xs : List Trip} (h : TripsAt w ao n xs) (e : Ext F w w') (hf : ∀ k, inA ao k → ¬ F k) : TripsAt w' ao n xs := ⟨h.1, h.2.ext e hf⟩
theorem trip_cells {w : World} {g o : Nat} {xs : List Trip} (h : Rd w (some ⟨g, o, none⟩) (xs.flatMap tripC)) (k : Nat) (t : Trip) (ht : xs[k]? = some t) :
    w.cell? ⟨g, o + k * 3, none⟩ = some (.int .i64 t.1) ∧ w.cell? ⟨g, o + k * 3 + 1, none⟩ = some (.int .i64 t.2.1) ∧ w.cell? ⟨g, o + k * 3 + 2, none⟩ = some (.int .i64 t.2.2) := by
  have h0 := h.cell (k * 3 + 0) _ (flat_at tripC 3 (fun _ => rfl) xs k t ht 0 (by omega))
  have h1 := h.cell (k * 3 + 1) _ (flat_at tripC 3 (fun _ => rfl) xs k t ht 1 (by omega))
  have h2 := h.cell (k * 3 + 2) _ (flat_at tripC 3 (fun _ => rfl) xs k t ht 2 (by omega))
  exact ⟨h0, h1, h2⟩

def nmJ (j : Nat) : List UInt8 := nameB (UInt8.ofNat j)
theorem nmJ_len (j : Nat) : (nmJ j).length = 32 := rfl
theorem name_nat (j : Nat) (hj : j < 256) (w : World) : Calls Tryd.prog 30 #[.int .u8 (j : Int)] w fun e w' => e = .returned (nameV (nmJ j)) ∧ Ext nob w w' := by
  have h := name_ok (UInt8.ofNat j) w
  rwa [show (((UInt8.ofNat j).toNat : Nat) : Int) = (j : Int) by rw [UInt8.toNat_ofNat']; omega] at h
theorem u8_small (j : Nat) (hj : j < 256) : IntKind.u8.wrap (j : Int) = (j : Int) := by
  simp [IntKind.wrap, IntKind.bits, IntKind.signed]; omega
theorem env_any (x : Int) (w : World) : Calls Tryd.prog 27 #[.int .i64 x] w fun e w' => ∃ g, e = .returned (.slice (some ⟨g, 0, none⟩) 3 3) ∧ Bytes w' (some ⟨g, 0, none⟩) 3 (envB x) ∧ Ext nob w w' ∧ w.heap.size ≤ g := by
  refine (env_ok x w).mono ?_
  rintro e w' ⟨rfl, h1, h2⟩
  exact ⟨_, rfl, h1, h2, Nat.le_refl _⟩
abbrev Pair := Int × Int
def pairC (t : Pair) : List Value := [.int .i64 t.1, .int .i64 t.2]
/-- A [][2]int that can be read. -/
def PairsAt (w : World) (ao : Option Addr) (n : Nat) (xs : List Pair) : Prop := xs.length = n ∧ Rd w ao (xs.flatMap pairC)
theorem PairsAt.ext {F : Nat → Prop} {w w' : World} {ao : Option Addr} {n : Nat} {xs : List Pair} (h : PairsAt w ao n xs) (e : Ext F w w') (hf : ∀ k, inA ao k → ¬ F k) : PairsAt w' ao n xs := ⟨h.1, h.2.ext e hf⟩
theorem pair_cells {w : World} {g o : Nat} {xs : List Pair} (h : Rd w (some ⟨g, o, none⟩) (xs.flatMap pairC)) (k : Nat) (t : Pair) (ht : xs[k]? = some t) :
    w.cell? ⟨g, o + k * 2, none⟩ = some (.int .i64 t.1) ∧ w.cell? ⟨g, o + k * 2 + 1, none⟩ = some (.int .i64 t.2) := by
  have h0 := h.cell (k * 2 + 0) _ (flat_at pairC 2 (fun _ => rfl) xs k t ht 0 (by omega))
  have h1 := h.cell (k * 2 + 1) _ (flat_at pairC 2 (fun _ => rfl) xs k t ht 1 (by omega))
  exact ⟨h0, h1⟩
end Go.Proofs.YtfgfhfmhadondaaDoor
