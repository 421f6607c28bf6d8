/- sealchainlaw10.MarkApart: the plain law: what is noted of ten names or sixty does not hang on the order. -/
import Derived.Test.YtfgfhfmhadondaaDoorMarkN
namespace Go.Proofs.YtfgfhfmhadondaaDoor
open Go.RowKit Go.Maps
set_option maxHeartbeats 400000

theorem nmJ_inj {i j : Nat} (hi : i < 256) (hj : j < 256) (h : nmJ i = nmJ j) : i = j := by
  have := congrArg UInt8.toNat (nameB_inj h)
  rw [UInt8.toNat_ofNat', UInt8.toNat_ofNat'] at this
  omega
theorem envB_ne (x : Int) : envB x ≠ [] := by unfold envB; simp

/-- D tells of the name j (below m) the version f j, whose envelope is env's of that version. -/
structure AP (m : Nat) (D : DataW Unit) (E : List Ent) (f : Nat → Nat) : Prop where
  enc : Enc D E
  ver : ∀ j, j < m → verD D (nmJ j) = (f j : Int)
  nms : ∀ e ∈ E, ∃ j, j < m ∧ e.n = nmJ j
  dig : ∀ e ∈ E, e.d = shaB (envB (e.v : Int))

theorem ap0 (m : Nat) : AP m D0 [] (fun _ => 0) := ⟨enc0, fun _ _ => rfl, fun e h => (by cases h), fun e h => (by cases h)⟩
theorem AP.mem {m : Nat} {D : DataW Unit} {E : List Ent} {f : Nat → Nat} (h : AP m D E f) (e : Ent) : e ∈ E ↔ ∃ j, j < m ∧ e.n = nmJ j ∧ 0 < f j ∧ e.v = f j ∧ e.d = shaB (envB (e.v : Int)) := by
  constructor
  · intro he
    obtain ⟨j, hj, hn⟩ := h.nms e he
    have h1 := (h.enc.at' e he).1
    rw [hn, h.ver j hj] at h1
    have h2 := (h.enc.fine e he).2.2.1
    exact ⟨j, hj, hn, by omega, by omega, h.dig e he⟩
  · rintro ⟨j, hj, hn, hp, hv, hd⟩
    have hh : hasD D (nmJ j) = true := by
      by_cases hh : hasD D (nmJ j) = true
      · exact hh
      · have h1 := verD_none (D := D) (n := nmJ j) (by simpa using hh)
        rw [h.ver j hj] at h1
        omega
    obtain ⟨x, hx, hxn⟩ := (h.enc.has _).1 hh
    have h1 := (h.enc.at' x hx).1
    rw [hxn, h.ver j hj] at h1
    have h2 := h.dig x hx
    have : x = e := by
      cases x; cases e
      simp only at hn hv hd hxn h1 h2
      have hvv := h1.symm
      simp only [Ent.mk.injEq]
      refine ⟨hxn.trans hn.symm, by omega, ?_⟩
      rw [h2, hd, hv]
      congr 2
    exact this ▸ hx
theorem AP.unique {m : Nat} {D D' : DataW Unit} {E E' : List Ent} {f f' : Nat → Nat} (h : AP m D E f) (h' : AP m D' E' f') (hf : ∀ j, j < m → f j = f' j) : E = E' :=
  rise_ext h.enc.rise h'.enc.rise (fun e => by
    rw [h.mem, h'.mem]
    constructor
    · rintro ⟨j, hj, h1, h2, h3, h4⟩; exact ⟨j, hj, h1, by rw [← hf j hj]; exact h2, by rw [← hf j hj]; exact h3, h4⟩
    · rintro ⟨j, hj, h1, h2, h3, h4⟩; exact ⟨j, hj, h1, by rw [hf j hj]; exact h2, by rw [hf j hj]; exact h3, h4⟩)
theorem AP.len {m : Nat} {D : DataW Unit} {E : List Ent} {f : Nat → Nat} (h : AP m D E f) : E.length ≤ m := by
  have hs : ∀ e ∈ E, e.n ∈ (List.range m).map nmJ := fun e he => by
    obtain ⟨j, hj, hn⟩ := h.nms e he
    exact List.mem_map.2 ⟨j, List.mem_range.2 hj, hn.symm⟩
  have hn : (E.map Ent.n).Nodup := by
    have := h.enc.rise
    rw [List.Nodup, List.pairwise_map]
    exact this.imp nlt
  have := (List.Nodup.length_le_of_subset hn (l₂ := (List.range m).map nmJ) (fun x hx => by
    obtain ⟨e, he, rfl⟩ := List.mem_map.1 hx
    exact hs e he))
  simpa using this
theorem AP.note {m : Nat} {D : DataW Unit} {E : List Ent} {f : Nat → Nat} (h : AP m D E f) (hm : m ≤ 63) {j v : Nat} (hj : j < m) (hv : 0 < v) (hv2 : v ≤ 1000) :
    (noteE D (nmJ j) v (envB v) = 0 ↔ f j ≤ v) ∧ ∃ E', AP m (noteD D (nmJ j) v (envB v)) E' (fun i => if i = j then max v (f i) else f i) ∧ Maps.size (noteD D (nmJ j) v (envB v)) + min (f j) 1 = Maps.size D + 1 := by
  have hs : Maps.size D ≠ 64 := by have := h.len; rw [h.enc.size]; omega
  have hver := h.ver j hj
  have hh : hasD D (nmJ j) = true ↔ 0 < f j := by
    rw [verD_zero (h.enc.good (by have := h.len; omega)), hver]; omega
  have hd : hasD D (nmJ j) = true → verD D (nmJ j) = (v : Int) → digD D (nmJ j) = shaB (envB (v : Int)) := fun h1 h2 => by
    obtain ⟨x, hx, hxn⟩ := (h.enc.has _).1 h1
    obtain ⟨h3, h4⟩ := h.enc.at' x hx
    rw [hxn] at h3 h4
    rw [h4, h.dig x hx, ← h2, h3]
  have hj1 : judgeE D (nmJ j) v (envB v) = if v < f j then 100 else 0 := by
    unfold judgeE
    rw [if_neg (by
      rintro (h1 | h1 | h1)
      · omega
      · omega
      · exact h1 ⟨fun h2 => by omega, fun h2 => absurd h2 (envB_ne _)⟩)]
    by_cases hlt : v < f j
    · rw [if_pos (by rw [hver]; omega), if_pos hlt]
    · rw [if_neg (by rw [hver]; omega), if_neg hlt, if_neg]
      rintro ⟨h1, h2, h3⟩
      exact h3 (hd h2 h1.symm).symm
  by_cases hlt : v < f j
  · rw [if_pos hlt] at hj1
    have hD : noteD D (nmJ j) v (envB v) = D := by unfold noteD; rw [hj1]; simp
    have hE : noteE D (nmJ j) v (envB v) = 100 := by unfold noteE; rw [hj1]; simp
    rw [hE, hD]
    refine ⟨⟨fun h => (by cases h), fun h => (by omega)⟩, E, ⟨h.enc, fun i hi => ?_, h.nms, h.dig⟩, by omega⟩
    rw [h.ver i hi]
    by_cases hij : i = j
    · rw [if_pos hij]; subst hij; rw [Nat.max_eq_right (by omega)]
    · rw [if_neg hij]
  · rw [if_neg hlt] at hj1
    have hE : noteE D (nmJ j) v (envB v) = 0 := by
      unfold noteE; rw [hj1]
      by_cases h1 : (v : Int) ≤ verD D (nmJ j)
      · simp [h1]
      · simp [h1, hs]
    refine ⟨⟨fun _ => by omega, fun _ => hE⟩, ?_⟩
    by_cases hle : v = f j
    · have hD : noteD D (nmJ j) v (envB v) = D := by unfold noteD; rw [if_neg]; rintro ⟨-, h2, -⟩; rw [hver] at h2; omega
      rw [hD]
      refine ⟨E, ⟨h.enc, fun i hi => ?_, h.nms, h.dig⟩, by omega⟩
      rw [h.ver i hi]
      by_cases hij : i = j
      · rw [if_pos hij]; subst hij; rw [Nat.max_eq_right (by omega)]
      · rw [if_neg hij]
    · have hD : noteD D (nmJ j) v (envB v) = putD D (nmJ j) v (shaB (envB v)) := by
        unfold noteD; rw [if_pos]
        exact ⟨hj1, by rw [hver]; omega, fun h => hs h.2⟩
      rw [hD]
      have hp := h.enc.put ⟨nmJ j, v, shaB (envB v)⟩ ⟨rfl, digest_len _ 32, hv, by show v ≤ _; omega⟩
      refine ⟨_, ⟨hp, fun i hi => ?_, fun e he => ?_, fun e he => ?_⟩, ?_⟩
      · rw [verD_put h.enc.tidy]
        by_cases hij : i = j
        · rw [if_pos hij, hij, if_pos rfl, Nat.max_eq_left (by omega)]
        · rw [if_neg hij, if_neg (fun e => hij (nmJ_inj (by omega) (by omega) e)), h.ver i hi]
      · rcases (mem_insE h.enc.rise).1 he with rfl | ⟨he, -⟩
        · exact ⟨j, hj, rfl⟩
        · exact h.nms e he
      · rcases (mem_insE h.enc.rise).1 he with rfl | ⟨he, -⟩
        · rfl
        · exact h.dig e he
      · rw [sizeD_put h.enc.tidy]
        by_cases hz : 0 < f j
        · rw [if_pos (hh.2 hz)]; omega
        · rw [if_neg (fun e => hz (hh.1 e))]; omega

/-- The greatest version of the name j. -/
def mxF : List (Nat × Nat) → Nat → Nat
  | [], _ => 0
  | x :: t, j => if x.1 = j then max x.2 (mxF t j) else mxF t j
theorem mxF_app : ∀ (xs ys : List (Nat × Nat)) (j : Nat), mxF (xs ++ ys) j = max (mxF xs j) (mxF ys j)
  | [], ys, j => by simp [mxF]
  | x :: t, ys, j => by
    simp only [List.cons_append, mxF]
    rw [mxF_app t ys j]
    split
    · rw [Nat.max_assoc]
    · rfl
theorem mxF_snoc (xs : List (Nat × Nat)) (x : Nat × Nat) (i : Nat) : (if i = x.1 then max x.2 (mxF xs i) else mxF xs i) = mxF (xs ++ [x]) i := by
  rw [mxF_app]
  by_cases h : i = x.1
  · subst h; simp [mxF, Nat.max_comm]
  · have h' : ¬ x.1 = i := fun e => h e.symm
    simp [mxF, h, h']
theorem mxF_cons (xs : List (Nat × Nat)) (x : Nat × Nat) (i : Nat) : (if i = x.1 then max x.2 (mxF xs i) else mxF xs i) = mxF (x :: xs) i := by
  by_cases h : i = x.1
  · subst h; simp [mxF]
  · have h' : ¬ x.1 = i := fun e => h e.symm
    simp [mxF, h, h']
/-- What a round notes. -/
def apj (r : Pair) : Nat × Nat := ((r.1 % 60).toNat, 1 + (r.2 % 99).toNat)
end Go.Proofs.YtfgfhfmhadondaaDoor
