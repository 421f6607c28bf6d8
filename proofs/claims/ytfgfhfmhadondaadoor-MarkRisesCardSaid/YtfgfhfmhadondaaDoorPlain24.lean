/- ViewSame, the plain law: a view's bytes tell its rows; First tells the first unlike row. No program in sight. -/
import Derived.Test.YtfgfhfmhadondaaDoorLaw24
namespace Go.Proofs.YtfgfhfmhadondaaDoor
open Go.RowKit
set_option maxHeartbeats 400000

/-- A count, read. -/
def decC : Nat → List UInt8 → Nat × List UInt8
  | acc, [] => (acc, [])
  | acc, b :: t => if 128 ≤ b.toNat then decC (acc * 128 + (b.toNat - 128)) t else (acc * 128 + b.toNat, t)

theorem shr_lt {n k : Nat} (h : n < 128 ^ (k + 1)) : n / 128 < 128 ^ k := by rw [Nat.div_lt_iff_lt_mul (by decide)]; rw [Nat.pow_succ] at h; exact h
theorem decC_tail : ∀ (k n : Nat) (rest : List UInt8), n < 128 ^ k → decC 0 ((cntTail k n).reverse ++ rest) = decC n rest
  | 0, n, rest, h => by
    have : n = 0 := by simpa using h
    subst this
    simp [cntTail]
  | k + 1, n, rest, h => by
    unfold cntTail
    split
    · rename_i h0; subst h0; simp
    · have h2 := shr_lt h
      rw [List.reverse_cons, List.append_assoc, decC_tail k (n / 128) _ h2]
      have h3 := grpM_toNat n
      have h4 : 128 ≤ (grpM n).toNat := by omega
      have h5 : n / 128 * 128 + ((grpM n).toNat - 128) = n := by omega
      show decC (n / 128) (grpM n :: rest) = decC n rest
      rw [decC, if_pos h4, h5]

theorem decC_count (n : Nat) (rest : List UInt8) (h : n < 128 ^ 10) : decC 0 (countB n ++ rest) = (n, rest) := by
  have h2 := shr_lt (k := 9) h
  have h3 := grpL_toNat n
  rw [countB, List.reverse_cons, List.append_assoc, decC_tail 9 (n / 128) _ h2]
  have h4 : ¬ 128 ≤ (grpL n).toNat := by omega
  have h5 : n / 128 * 128 + (grpL n).toNat = n := by omega
  show decC (n / 128) (grpL n :: rest) = (n, rest)
  rw [decC, if_neg h4, h5]

theorem countB_inj {n m : Nat} {x y : List UInt8} (hn : n < 128 ^ 10) (hm : m < 128 ^ 10) (h : countB n ++ x = countB m ++ y) : n = m ∧ x = y := by
  have h1 := decC_count n x hn
  rw [h, decC_count m y hm] at h1
  exact ⟨(Prod.mk.inj h1).1.symm, (Prod.mk.inj h1).2.symm⟩

theorem byte_inj {a b : Int} (ha : 0 ≤ a ∧ a < 256) (hb : 0 ≤ b ∧ b < 256) (h : UInt8.ofNat a.toNat = UInt8.ofNat b.toNat) : a = b := by
  have := congrArg UInt8.toNat h
  rw [UInt8.toNat_ofNat', UInt8.toNat_ofNat'] at this
  omega

theorem rowB_inj {l : Int} {r s : RowS} {x y : List UInt8} (hl : 0 ≤ l) (hr : mayS r = true) (hs : mayS s = true) (hlr : l ≤ r.step) (hls : l ≤ s.step) (h : rowB l r ++ x = rowB l s ++ y) : r = s ∧ x = y := by
  obtain ⟨r1, r2, r3, r4, r5, r6⟩ := (mayS_iff r).1 hr
  obtain ⟨s1, s2, s3, s4, s5, s6⟩ := (mayS_iff s).1 hs
  have hbig : (9007199254740991 : Nat) < 128 ^ 10 := by decide
  unfold rowB at h
  simp only [List.append_assoc] at h
  obtain ⟨e1, h⟩ := countB_inj (by omega) (by omega) h
  simp only [List.cons_append, List.nil_append, List.cons.injEq] at h
  obtain ⟨e2, e3, h⟩ := h
  obtain ⟨e4, h⟩ := countB_inj (by omega) (by omega) h
  obtain ⟨e5, h⟩ := List.append_inj h e4
  refine ⟨?_, h⟩
  have f2 := byte_inj (by omega) (by omega) e2
  have f3 := byte_inj (by omega) (by omega) e3
  cases r; cases s
  simp only [RowS.mk.injEq]
  exact ⟨by simp only at *; omega, f2, f3, e5⟩

theorem rowsB_inj : ∀ (l : Int) (A B : List RowS), 0 ≤ l → (∀ r ∈ A, mayS r = true) → (∀ r ∈ B, mayS r = true) → stepsUp l A → stepsUp l B → A.length = B.length → rowsB l A = rowsB l B → A = B
  | _, [], [], _, _, _, _, _, _, _ => rfl
  | _, [], _ :: _, _, _, _, _, _, h, _ => by simp at h
  | _, _ :: _, [], _, _, _, _, _, h, _ => by simp at h
  | l, a :: s, b :: t, hl, ha, hb, ua, ub, hn, h => by
    obtain ⟨e, h⟩ := rowB_inj hl (ha a (by simp)) (hb b (by simp)) ua.1 ub.1 h
    subst e
    rw [rowsB_inj a.step s t (Int.le_trans hl ua.1) (fun r hr => ha r (by simp [hr])) (fun r hr => hb r (by simp [hr])) ua.2 ub.2 (by simpa using hn) h]

theorem viewB_inj {A B : List RowS} (ha : GoodV A) (hb : GoodV B) (h : viewB A = viewB B) : A = B := by
  have h1 := ha.2.2
  have h2 := hb.2.2
  have hbig : (20000 : Nat) < 128 ^ 10 := by decide
  obtain ⟨e, h⟩ := countB_inj (by omega) (by omega) h
  exact rowsB_inj 0 A B (by omega) ha.1 hb.1 ha.2.1 hb.2.1 e h

theorem firstGo_comm : ∀ (A B : List RowS) (i : Nat), firstGo A B i = firstGo B A i
  | [], [], _ => rfl
  | [], _ :: _, i => by rw [firstGo_r, firstGo_l]
  | _ :: _, [], i => by rw [firstGo_r, firstGo_l]
  | a :: s, b :: t, i => by
    unfold firstGo
    by_cases h : a = b
    · rw [if_pos h, if_pos h.symm]; exact firstGo_comm s t (i + 1)
    · rw [if_neg h, if_neg (fun e => h e.symm)]

theorem firstGo_self : ∀ (A : List RowS) (i : Nat), firstGo A A i = -1
  | [], _ => rfl
  | a :: s, i => by unfold firstGo; rw [if_pos rfl]; exact firstGo_self s (i + 1)

theorem firstGo_at : ∀ (k : Nat) (A B : List RowS) (i : Nat), A.take k = B.take k → A[k]? ≠ B[k]? → firstGo A B i = ((i + k : Nat) : Int)
  | 0, [], [], i, _, h => absurd rfl h
  | 0, [], _ :: _, i, _, _ => by rw [firstGo_r]; rfl
  | 0, _ :: _, [], i, _, _ => by rw [firstGo_l]; rfl
  | 0, a :: s, b :: t, i, _, h => by
    unfold firstGo
    rw [if_neg (fun e => h (by simp [e]))]; rfl
  | k + 1, [], [], i, _, h => absurd rfl h
  | k + 1, [], _ :: _, i, h, _ => by simp at h
  | k + 1, _ :: _, [], i, h, _ => by simp at h
  | k + 1, a :: s, b :: t, i, h, hk => by
    simp only [List.take_succ_cons, List.cons.injEq] at h
    unfold firstGo
    rw [if_pos h.1, firstGo_at k s t (i + 1) h.2 (by simpa using hk)]
    omega

theorem firstI_self (A : List RowS) : firstI A A = -1 := firstGo_self A 0
theorem firstI_comm (A B : List RowS) : firstI A B = firstI B A := firstGo_comm A B 0
theorem firstI_at {k : Nat} {A B : List RowS} (h : A.take k = B.take k) (hk : A[k]? ≠ B[k]?) : firstI A B = (k : Int) := by
  have := firstGo_at k A B 0 h hk
  simpa [firstI] using this

theorem ofGo_all : ∀ (t acc : List RowS), GoodV (acc ++ t) → ofGo acc t = (0, acc ++ t)
  | [], acc, _ => by simp [ofGo]
  | r :: t, acc, h => by
    have h' : GoodV ((acc ++ [r]) ++ t) := by simpa using h
    have hm : mayS r = true := h.1 r (by simp)
    have hu : lastS acc ≤ r.step := by
      have := up_at (acc ++ r :: t) 0 acc.length r h.2.1 (by simp)
      rw [List.take_left] at this
      exact this
    have hl : acc.length ≠ 20000 := by have := h.2.2; simp at this; omega
    have h0 : addE acc r = 0 := by
      unfold addE
      rw [if_neg (by rintro (h | h); · simp [hm] at h
                     · omega), if_neg hl]
    unfold ofGo
    rw [if_pos h0, ofGo_all t (acc ++ [r]) h']
    simp

def nodeL : List Int := [0, 1, 2, 10, 11, 12, 13]
def nodeS (i : Int) : Int := (nodeL[(i % 7).toNat]?).getD 0
def seedRow (st : Int) (s : RowS) : RowS := ⟨st, nodeS s.node, 1 + s.kind % 3, s.b.take 100⟩
def madeGo : Int → List RowS → List RowS
  | _, [] => []
  | st, s :: t => seedRow (st + s.step % 3) s :: madeGo (st + s.step % 3) t
def madeS (l : List RowS) (most : Nat) : List RowS := madeGo 0 (l.take most)

theorem nodeS_may (i : Int) : (0 ≤ nodeS i ∧ nodeS i < 3) ∨ (10 ≤ nodeS i ∧ nodeS i < 14) := by
  have h : (i % 7).toNat = 0 ∨ (i % 7).toNat = 1 ∨ (i % 7).toNat = 2 ∨ (i % 7).toNat = 3 ∨ (i % 7).toNat = 4 ∨ (i % 7).toNat = 5 ∨ (i % 7).toNat = 6 := by omega
  unfold nodeS
  rcases h with h | h | h | h | h | h | h <;> rw [h] <;> decide

theorem seedRow_may (st : Int) (s : RowS) (h0 : 0 ≤ st) (h1 : st ≤ 1000000) : mayS (seedRow st s) = true := by
  refine (mayS_iff _).2 ⟨nodeS_may _, h0, by show st ≤ _; omega, by show 1 ≤ 1 + s.kind % 3; omega, by show 1 + s.kind % 3 ≤ 3; omega, ?_⟩
  show (s.b.take 100).length ≤ 65536
  rw [List.length_take]; omega

theorem madeGo_len : ∀ (l : List RowS) (st : Int), (madeGo st l).length = l.length
  | [], _ => rfl
  | s :: t, st => by simp [madeGo, madeGo_len t]

theorem madeGo_good : ∀ (l : List RowS) (st : Int), 0 ≤ st → st + 2 * l.length ≤ 1000000 → (∀ r ∈ madeGo st l, mayS r = true) ∧ stepsUp st (madeGo st l)
  | [], _, _, _ => ⟨by simp [madeGo], trivial⟩
  | s :: t, st, h0, h1 => by
    rw [List.length_cons] at h1
    have hb : 0 ≤ s.step % 3 ∧ s.step % 3 ≤ 2 := by omega
    have ih := madeGo_good t (st + s.step % 3) (by omega) (by omega)
    refine ⟨fun r hr => ?_, by show st ≤ st + s.step % 3; omega, ih.2⟩
    rcases List.mem_cons.1 hr with rfl | hr
    · exact seedRow_may _ _ (by omega) (by omega)
    · exact ih.1 r hr

theorem madeS_len (l : List RowS) (most : Nat) : (madeS l most).length = min most l.length := by rw [madeS, madeGo_len, List.length_take]
theorem madeS_good (l : List RowS) (most : Nat) (h : most ≤ 1000) : GoodV (madeS l most) := by
  have h1 : (l.take most).length ≤ 1000 := by rw [List.length_take]; omega
  have := madeGo_good (l.take most) 0 (by omega) (by omega)
  exact ⟨this.1, this.2, by rw [madeS, madeGo_len]; omega⟩

/-- A row in another's place, at its step. -/
theorem stepsUp_set : ∀ (L : List RowS) (l : Int) (k : Nat) (r x : RowS), stepsUp l L → L[k]? = some r → x.step = r.step → stepsUp l (L.set k x)
  | [], _, _, _, _, h, _, _ => by simpa using h
  | a :: t, l, 0, r, x, h, hr, hx => by
    simp at hr; subst hr
    cases t with
    | nil => exact ⟨by rw [hx]; exact h.1, trivial⟩
    | cons b u => exact ⟨by rw [hx]; exact h.1, by rw [hx]; exact h.2.1, h.2.2⟩
  | a :: t, l, k + 1, r, x, h, hr, hx => ⟨h.1, stepsUp_set t a.step k r x h.2 (by simpa using hr) hx⟩

theorem GoodV.set {L : List RowS} (h : GoodV L) {k : Nat} {r x : RowS} (hr : L[k]? = some r) (hx : x.step = r.step) (hm : mayS x = true) : GoodV (L.set k x) := by
  refine ⟨fun y hy => ?_, stepsUp_set L 0 k r x h.2.1 hr hx, by rw [List.length_set]; exact h.2.2⟩
  rcases List.mem_or_eq_of_mem_set hy with hy | rfl
  · exact h.1 y hy
  · exact hm
theorem stepsUp_take : ∀ (L : List RowS) (l : Int) (k : Nat), stepsUp l L → stepsUp l (L.take k)
  | [], _, _, _ => by simp [stepsUp]
  | a :: t, l, 0, _ => trivial
  | a :: t, l, k + 1, h => ⟨h.1, stepsUp_take t a.step k h.2⟩
theorem GoodV.take {L : List RowS} (h : GoodV L) (k : Nat) : GoodV (L.take k) :=
  ⟨fun y hy => h.1 y (List.mem_of_mem_take hy), stepsUp_take L 0 k h.2.1, by have := h.2.2; rw [List.length_take]; omega⟩

/-- What ViewSame asks of two lists that are unlike at k, if at all. -/
def unlikeAt (A B : List RowS) (k : Nat) : Prop := A.take k = B.take k ∧ (A ≠ B → A[k]? ≠ B[k]?)
theorem same_law {A B : List RowS} {k : Nat} (ha : GoodV A) (hb : GoodV B) (hu : unlikeAt A B k) :
    firstI A B = firstI B A ∧ decide (viewB A = viewB B) = (firstI A B == -1) ∧ (viewB A ≠ viewB B → firstI A B = k) ∧ (viewB A = viewB B → A = B) := by
  have hi : viewB A = viewB B → A = B := viewB_inj ha hb
  refine ⟨firstI_comm A B, ?_, fun h => firstI_at hu.1 (hu.2 (fun e => h (by rw [e]))), hi⟩
  by_cases h : A = B
  · subst h; simp [firstI_self]
  · have h2 := firstI_at hu.1 (hu.2 h)
    have h3 : viewB A ≠ viewB B := fun e => h (hi e)
    rw [h2]
    simp [h3]
theorem unlike_set {A : List RowS} {k : Nat} {x : RowS} : unlikeAt A (A.set k x) k := by
  refine ⟨?_, fun h e => h ?_⟩
  · apply List.ext_getElem?
    intro j
    rw [List.getElem?_take, List.getElem?_take]
    split
    · rw [List.getElem?_set_ne (by omega)]
    · rfl
  apply List.ext_getElem?
  intro j
  by_cases hj : k = j
  · subst hj; exact e
  · rw [List.getElem?_set_ne hj]
theorem unlike_take {A : List RowS} {k : Nat} (hk : k < A.length) : unlikeAt A (A.take k) k := by
  refine ⟨by rw [List.take_take, Nat.min_self], fun _ e => ?_⟩
  rw [List.getElem?_eq_getElem hk, List.getElem?_eq_none (by rw [List.length_take]; omega)] at e
  cases e
theorem unlike_self (A : List RowS) (k : Nat) : unlikeAt A A k := ⟨rfl, fun h => absurd rfl h⟩
end Go.Proofs.YtfgfhfmhadondaaDoor
