/- What num writes and reads, in plain lists of bytes. No Go program in sight. -/
namespace Go.Proofs.YtfgfhfmhadondaaDoor

/-- A group with more to come, and the last one. -/
def grpM (m : Nat) : UInt8 := UInt8.ofNat (m % 128 + 128)
def grpL (m : Nat) : UInt8 := UInt8.ofNat (m % 128)
theorem grpM_toNat (m : Nat) : (grpM m).toNat = m % 128 + 128 := by unfold grpM; rw [UInt8.toNat_ofNat']; omega
theorem grpL_toNat (m : Nat) : (grpL m).toNat = m % 128 := by unfold grpL; rw [UInt8.toNat_ofNat']; omega

/-- The higher groups of a count, the lowest first. -/
def cntTail : Nat → Nat → List UInt8
  | 0, _ => []
  | k + 1, n => if n = 0 then [] else grpM n :: cntTail k (n / 128)
/-- A count's bytes. -/
def countB (n : Nat) : List UInt8 := (grpL n :: cntTail 9 (n / 128)).reverse

theorem cntTail_len : ∀ k n, (cntTail k n).length ≤ k
  | 0, _ => by simp [cntTail]
  | k + 1, n => by unfold cntTail; split <;> simp; exact cntTail_len k _
theorem countB_len (n : Nat) : (countB n).length ≤ 10 := by
  have := cntTail_len 9 (n / 128)
  simp [countB]; omega
theorem countB_pos (n : Nat) : 0 < (countB n).length := by simp [countB]
theorem cntTail_mono : ∀ k j n, n < 128 ^ k → cntTail (k + j) n = cntTail k n
  | 0, j, n, h => by
    have : n = 0 := by simpa using h
    subst this
    cases j <;> simp [cntTail]
  | k + 1, j, n, h => by
    rw [show k + 1 + j = (k + j) + 1 from by omega]
    unfold cntTail
    split
    · rfl
    · rw [cntTail_mono k j (n / 128) (by rw [Nat.div_lt_iff_lt_mul (by decide)]; rw [Nat.pow_succ] at h; exact h)]

/-- A reader: what is left, and the first error. -/
abbrev RSt := List UInt8 × Nat

def rFail (e : Nat) (s : RSt) : RSt := ([], if s.2 = 0 then e else s.2)
/-- n bytes. -/
def rRaw (n : Nat) (s : RSt) : List UInt8 × RSt :=
  if s.2 ≠ 0 then ([], s) else if s.1.length < n then ([], [], 3) else (s.1.take n, s.1.drop n, 0)
/-- One byte, as a number. -/
def rNum1 (s : RSt) : Nat × RSt :=
  if s.2 ≠ 0 then (0, s) else match s.1 with
    | [] => (0, [], 3)
    | b :: r => (b.toNat, r, 0)
/-- The groups of a count: f more of them at most. -/
def rCnt (most : Int) : Nat → Bool → Nat → List UInt8 → Nat × RSt
  | 0, _, _, _ => (0, [], 4)
  | _ + 1, _, _, [] => (0, [], 3)
  | f + 1, first, n, b :: r =>
    if first = true ∧ b.toNat = 128 then (0, [], 4)
    else if 128 ≤ b.toNat then rCnt most f false (n * 128 + b.toNat % 128) r
    else if 9007199254740991 < n * 128 + b.toNat % 128 then (0, [], 9)
    else if most < (n * 128 + b.toNat % 128 : Nat) then (0, [], 5)
    else (n * 128 + b.toNat % 128, r, 0)
def rCount (most : Int) (s : RSt) : Nat × RSt := if s.2 ≠ 0 then (0, s) else rCnt most 8 true 0 s.1
/-- A text. -/
def rText (most : Int) (s : RSt) : List UInt8 × RSt :=
  if (rCount most s).2.2 ≠ 0 then ([], (rCount most s).2) else rRaw (rCount most s).1 (rCount most s).2
def rEnd (s : RSt) : Nat := if s.2 = 0 ∧ s.1 ≠ [] then 4 else s.2

/-- A reader in error has nothing left. -/
def RSt.ok (s : RSt) : Prop := s.2 ≠ 0 → s.1 = []

theorem rCnt_ok (most : Int) : ∀ f first n l, RSt.ok (rCnt most f first n l).2
  | 0, _, _, _ => by simp [rCnt, RSt.ok]
  | _ + 1, _, _, [] => by simp [rCnt, RSt.ok]
  | f + 1, first, n, b :: r => by
    unfold rCnt
    split
    · simp [RSt.ok]
    · split
      · exact rCnt_ok most f _ _ _
      · split
        · simp [RSt.ok]
        · split <;> simp [RSt.ok]
theorem rCount_ok (most : Int) (s : RSt) (h : RSt.ok s) : RSt.ok (rCount most s).2 := by
  unfold rCount; split
  · exact h
  · exact rCnt_ok most 8 true 0 s.1
theorem rRaw_ok (n : Nat) (s : RSt) (h : RSt.ok s) : RSt.ok (rRaw n s).2 := by
  unfold rRaw; split
  · exact h
  · split <;> simp [RSt.ok]
theorem rNum1_ok (s : RSt) (h : RSt.ok s) : RSt.ok (rNum1 s).2 := by
  unfold rNum1; split
  · exact h
  · split <;> simp [RSt.ok]
theorem rText_ok (most : Int) (s : RSt) (h : RSt.ok s) : RSt.ok (rText most s).2 := by
  unfold rText; split
  · exact rCount_ok most s h
  · exact rRaw_ok _ _ (rCount_ok most s h)
theorem rCnt_le (most : Int) (hm : 0 ≤ most) : ∀ f first n l, ((rCnt most f first n l).1 : Int) ≤ most ∧ (rCnt most f first n l).1 ≤ 9007199254740991
  | 0, _, _, _ => by simp [rCnt, hm]
  | _ + 1, _, _, [] => by simp [rCnt, hm]
  | f + 1, first, n, b :: r => by
    unfold rCnt
    split
    · simp [hm]
    · split
      · exact rCnt_le most hm f _ _ _
      · split
        · simp [hm]
        · split
          · simp [hm]
          · simp; omega
theorem rCount_le (most : Int) (hm : 0 ≤ most) (s : RSt) : ((rCount most s).1 : Int) ≤ most ∧ (rCount most s).1 ≤ 9007199254740991 := by
  unfold rCount; split
  · simp [hm]
  · exact rCnt_le most hm ..
theorem rRaw_len (n : Nat) (s : RSt) : (rRaw n s).2.1.length ≤ s.1.length := by
  unfold rRaw; split
  · simp
  · split <;> simp
theorem rNum1_len (s : RSt) : (rNum1 s).2.1.length ≤ s.1.length := by
  unfold rNum1; split
  · simp
  · split <;> simp_all
theorem rCnt_len (most : Int) : ∀ f first n l, (rCnt most f first n l).2.1.length ≤ l.length
  | 0, _, _, _ => by simp [rCnt]
  | _ + 1, _, _, [] => by simp [rCnt]
  | f + 1, first, n, b :: r => by
    unfold rCnt
    split
    · simp
    · split
      · exact Nat.le_trans (rCnt_len most f _ _ _) (by simp)
      · split
        · simp
        · split <;> simp
theorem rCount_len (most : Int) (s : RSt) : (rCount most s).2.1.length ≤ s.1.length := by
  unfold rCount; split
  · simp
  · exact rCnt_len ..
theorem rText_len (most : Int) (s : RSt) : (rText most s).2.1.length ≤ s.1.length := by
  unfold rText; split
  · exact rCount_len most s
  · exact Nat.le_trans (rRaw_len _ _) (rCount_len most s)
theorem rNum1_lt (s : RSt) : (rNum1 s).1 < 256 := by
  unfold rNum1; split
  · simp
  · split
    · simp
    · simp only []; exact UInt8.toNat_lt _
end Go.Proofs.YtfgfhfmhadondaaDoor
