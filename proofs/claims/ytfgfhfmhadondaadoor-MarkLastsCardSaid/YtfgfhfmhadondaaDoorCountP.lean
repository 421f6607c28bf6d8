/- num: a count that is read is written by just the bytes that were read, and the other way round. Plain lists of bytes; no Go program in sight. -/
import Derived.Test.YtfgfhfmhadondaaDoorSpec
namespace Go.Proofs.YtfgfhfmhadondaaDoor

theorem u8_of {b : UInt8} {n : Nat} (h : b.toNat = n) : UInt8.ofNat n = b := by
  apply UInt8.toNat_inj.1
  rw [UInt8.toNat_ofNat']
  have := b.toNat_lt
  omega
/-- The higher groups, the highest first. -/
def cntHi (n : Nat) : List UInt8 := (cntTail 9 n).reverse
theorem cntHi_zero : cntHi 0 = [] := rfl
theorem cntHi_step {n : Nat} (h0 : n ≠ 0) (h : n < 128 ^ 8) : cntHi n = cntHi (n / 128) ++ [grpM n] := by
  unfold cntHi
  rw [show cntTail 9 n = grpM n :: cntTail 8 (n / 128) by rw [cntTail, if_neg h0], ← cntTail_mono 8 1 (n / 128) (by omega), List.reverse_cons]
theorem countB_hi (n : Nat) : countB n = cntHi (n / 128) ++ [grpL n] := by
  unfold countB cntHi
  rw [List.reverse_cons]

/-- What was read is what is written. -/
theorem rCnt_canon (most : Int) : ∀ (f : Nat) (first : Bool) (acc : Nat) (l : List UInt8) (n : Nat) (r : List UInt8), rCnt most f first acc l = (n, r, 0) → (first = true → acc = 0) → (first = false → 0 < acc) → f ≤ 8 → acc < 128 ^ (8 - f) →
    ∃ g, l = g ++ r ∧ countB n = cntHi acc ++ g
  | 0, _, _, _, _, _, h, _, _, _, _ => by simp [rCnt] at h
  | _ + 1, _, _, [], _, _, h, _, _, _, _ => by simp [rCnt] at h
  | f + 1, first, acc, b :: t, n, r, h, h1, h2, hf, hacc => by
    have hb := b.toNat_lt
    have hp : 128 ^ (8 - f) = 128 ^ (8 - (f + 1)) * 128 := by rw [← Nat.pow_succ]; congr 1; omega
    have hle : 128 ^ (8 - f) ≤ 128 ^ 8 := Nat.pow_le_pow_right (by decide) (by omega)
    unfold rCnt at h
    split at h
    · simp at h
    · rename_i hn
      split at h
      · rename_i hge
        have hx : acc * 128 + b.toNat % 128 < 128 ^ (8 - f) := by rw [hp]; omega
        have hpos : 0 < acc * 128 + b.toNat % 128 := by
          cases first with
          | true => have := h1 rfl; have : b.toNat ≠ 128 := fun e => hn ⟨rfl, e⟩; omega
          | false => have := h2 rfl; omega
        obtain ⟨g, rfl, hg⟩ := rCnt_canon most f false _ t n r h (fun e => by cases e) (fun _ => hpos) (by omega) hx
        refine ⟨b :: g, rfl, ?_⟩
        rw [hg, cntHi_step (by omega) (by omega), show (acc * 128 + b.toNat % 128) / 128 = acc by omega, List.append_assoc]
        congr 1
        show [grpM _] ++ g = b :: g
        rw [show grpM (acc * 128 + b.toNat % 128) = b by unfold grpM; exact u8_of (by omega)]
        rfl
      · rename_i hlt
        split at h
        · simp at h
        · split at h
          · simp at h
          · simp only [Prod.mk.injEq] at h
            obtain ⟨rfl, rfl, -⟩ := h
            refine ⟨[b], rfl, ?_⟩
            rw [countB_hi, show (acc * 128 + b.toNat % 128) / 128 = acc by omega]
            congr 1
            rw [show grpL (acc * 128 + b.toNat % 128) = b by unfold grpL; exact u8_of (by omega)]
theorem rCount_canon (most : Int) {s : RSt} {n : Nat} {r : List UInt8} (h : rCount most s = (n, r, 0)) : s.2 = 0 ∧ s.1 = countB n ++ r := by
  unfold rCount at h
  split at h
  · rename_i hs
    simp only [Prod.mk.injEq] at h
    obtain ⟨-, h⟩ := h
    exact absurd (by rw [h]) hs
  · rename_i hs
    obtain ⟨g, h1, h2⟩ := rCnt_canon most 8 true 0 s.1 n r h (fun _ => rfl) (fun e => by cases e) (by omega) (by decide)
    rw [h1, h2, cntHi_zero]
    exact ⟨by omega, rfl⟩

theorem cntHi_len : ∀ (k n : Nat), n < 128 ^ k → k ≤ 8 → (cntHi n).length ≤ k
  | k, n, h, hk => by
    unfold cntHi
    rw [List.length_reverse, show 9 = k + (9 - k) by omega, cntTail_mono k _ n h]
    exact cntTail_len k n
/-- The higher groups are read. -/
theorem rCnt_hi (most : Int) (l : List UInt8) : ∀ (k n : Nat), n < 128 ^ k → k ≤ 8 → ∀ f, (cntHi n).length ≤ f → rCnt most f true 0 (cntHi n ++ l) = rCnt most (f - (cntHi n).length) (decide (n = 0)) n l
  | 0, n, h, _, f, _ => by
    have : n = 0 := by simpa using h
    subst this
    rfl
  | k + 1, n, h, hk, f, hf => by
    by_cases h0 : n = 0
    · subst h0; rfl
    · have hle : 128 ^ (k + 1) ≤ 128 ^ 8 := Nat.pow_le_pow_right (by decide) hk
      have hd : n / 128 < 128 ^ k := by rw [Nat.div_lt_iff_lt_mul (by decide)]; rwa [Nat.pow_succ] at h
      have e := cntHi_step h0 (by omega)
      have el : (cntHi n).length = (cntHi (n / 128)).length + 1 := by rw [e]; simp
      rw [el] at hf ⊢
      rw [e, List.append_assoc, rCnt_hi most _ k (n / 128) hd (by omega) f (by omega)]
      obtain ⟨j, hj⟩ : ∃ j, f - (cntHi (n / 128)).length = j + 1 := ⟨f - (cntHi (n / 128)).length - 1, by omega⟩
      rw [hj, show f - ((cntHi (n / 128)).length + 1) = j by omega]
      show rCnt most (j + 1) _ _ (grpM n :: l) = _
      have hg := grpM_toNat n
      rw [rCnt, if_neg, if_pos (by omega), hg, show n / 128 * 128 + (n % 128 + 128) % 128 = n by omega]
      · rw [show decide (n = 0) = false by simpa using h0]
      · rintro ⟨h1, h2⟩
        simp only [decide_eq_true_eq] at h1
        rw [hg] at h2
        omega
theorem rCount_countB {most : Int} {n : Nat} (h1 : (n : Int) ≤ most) (h2 : n ≤ 9007199254740991) (r : List UInt8) : rCount most (countB n ++ r, 0) = (n, r, 0) := by
  have hd : n / 128 < 128 ^ 7 := by omega
  have hl := cntHi_len 7 (n / 128) hd (by omega)
  unfold rCount
  rw [if_neg (by simp), countB_hi, List.append_assoc, rCnt_hi most _ 7 (n / 128) hd (by omega) 8 (by omega)]
  obtain ⟨j, hj⟩ : ∃ j, 8 - (cntHi (n / 128)).length = j + 1 := ⟨8 - (cntHi (n / 128)).length - 1, by omega⟩
  rw [hj]
  show rCnt most (j + 1) _ _ (grpL n :: r) = _
  have hg := grpL_toNat n
  rw [rCnt, if_neg (fun h => by omega), if_neg (by omega), if_neg (by omega), hg, show n / 128 * 128 + n % 128 % 128 = n by omega, if_neg (by omega)]
end Go.Proofs.YtfgfhfmhadondaaDoor
