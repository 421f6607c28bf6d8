/- mark: what was noted, as a list of names that rises; its encoding; what Open makes of bytes. Plain: no Go program in sight. -/
import Derived.Test.YtfgfhfmhadondaaDoorMarkK
import Derived.Test.YtfgfhfmhadondaaDoorCountP
namespace Go.Proofs.YtfgfhfmhadondaaDoor
open Go.RowKit Go.Maps Go.Sort Go.Lib
set_option maxHeartbeats 400000

/-- A name, its version, its digest. -/
structure Ent where
  n : List UInt8
  v : Nat
  d : List UInt8
def Ent.b (e : Ent) : List UInt8 := e.n ++ (countB e.v ++ e.d)
def Ent.fine (e : Ent) : Prop := e.n.length = 32 ∧ e.d.length = 32 ∧ 0 < e.v ∧ e.v ≤ 9007199254740991
abbrev RiseE (E : List Ent) : Prop := E.Pairwise (fun a b => a.n < b.n)

/-- D reads as the list E. -/
structure Enc (D : DataW Unit) (E : List Ent) : Prop where
  tidy : Tidy D
  rise : RiseE E
  fine : ∀ e ∈ E, e.fine
  has : ∀ n, hasD D n = true ↔ ∃ e ∈ E, e.n = n
  at' : ∀ e ∈ E, verD D e.n = e.v ∧ digD D e.n = e.d
  size : Maps.size D = E.length

theorem tri (a b : List UInt8) : a < b ∨ a = b ∨ b < a := by
  by_cases h : a < b
  · exact .inl h
  · by_cases h' : b < a
    · exact .inr (.inr h')
    · exact .inr (.inl (List.le_antisymm (List.not_lt.1 h') (List.not_lt.1 h)))
theorem nlt {a b : List UInt8} (h : a < b) : a ≠ b := fun e => List.lt_irrefl b (e ▸ h)

def insE (e : Ent) : List Ent → List Ent
  | [] => [e]
  | y :: t => if y.n < e.n then y :: insE e t else if y.n = e.n then e :: t else e :: y :: t
theorem mem_insE {e x : Ent} : ∀ {E : List Ent}, RiseE E → (x ∈ insE e E ↔ x = e ∨ (x ∈ E ∧ x.n ≠ e.n))
  | [], _ => by simp [insE]
  | y :: t, h => by
    obtain ⟨hy, ht⟩ := List.pairwise_cons.1 h
    unfold insE
    split
    · rename_i h1
      rw [List.mem_cons, mem_insE ht, List.mem_cons]
      constructor
      · rintro (rfl | rfl | ⟨h2, h3⟩)
        · exact .inr ⟨.inl rfl, nlt h1⟩
        · exact .inl rfl
        · exact .inr ⟨.inr h2, h3⟩
      · rintro (rfl | ⟨rfl | h2, h3⟩)
        · exact .inr (.inl rfl)
        · exact .inl rfl
        · exact .inr (.inr ⟨h2, h3⟩)
    · split
      · rename_i h1 h2
        rw [List.mem_cons, List.mem_cons]
        constructor
        · rintro (h | h)
          · exact .inl h
          · exact .inr ⟨.inr h, fun e' => nlt (hy x h) (h2.trans e'.symm)⟩
        · rintro (h | ⟨rfl | h, h3⟩)
          · exact .inl h
          · exact absurd h2 h3
          · exact .inr h
      · rename_i h1 h2
        have h3 : e.n < y.n := by
          rcases tri y.n e.n with h | h | h
          · exact absurd h h1
          · exact absurd h h2
          · exact h
        rw [List.mem_cons]
        constructor
        · rintro (h | h)
          · exact .inl h
          · refine .inr ⟨h, fun e' => ?_⟩
            rcases List.mem_cons.1 h with rfl | h
            · exact h2 e'
            · exact nlt (List.lt_trans h3 (hy x h)) e'.symm
        · rintro (h | ⟨h, -⟩)
          · exact .inl h
          · exact .inr h
theorem insE_rise {e : Ent} : ∀ {E : List Ent}, RiseE E → RiseE (insE e E)
  | [], _ => by simp [insE]
  | y :: t, h => by
    obtain ⟨hy, ht⟩ := List.pairwise_cons.1 h
    unfold insE
    split
    · rename_i h1
      refine List.pairwise_cons.2 ⟨fun x hx => ?_, insE_rise ht⟩
      rcases (mem_insE ht).1 hx with rfl | ⟨hx, -⟩
      · exact h1
      · exact hy x hx
    · split
      · rename_i h1 h2
        exact List.pairwise_cons.2 ⟨fun x hx => h2 ▸ hy x hx, ht⟩
      · rename_i h1 h2
        have h3 : e.n < y.n := by
          rcases tri y.n e.n with h | h | h
          · exact absurd h h1
          · exact absurd h h2
          · exact h
        refine List.pairwise_cons.2 ⟨fun x hx => ?_, h⟩
        rcases List.mem_cons.1 hx with rfl | hx
        · exact h3
        · exact List.lt_trans h3 (hy x hx)
theorem insE_len {e : Ent} : ∀ {E : List Ent}, RiseE E → (∃ x ∈ E, x.n = e.n) → (insE e E).length = E.length
  | [], _, h => by obtain ⟨x, hx, -⟩ := h; cases hx
  | y :: t, h, hx => by
    obtain ⟨hy, ht⟩ := List.pairwise_cons.1 h
    obtain ⟨x, hx, hn⟩ := hx
    unfold insE
    split
    · rename_i h1
      rcases List.mem_cons.1 hx with rfl | hx
      · exact absurd hn (nlt h1)
      · rw [List.length_cons, insE_len ht ⟨x, hx, hn⟩, List.length_cons]
    · split
      · rfl
      · rename_i h1 h2
        rcases List.mem_cons.1 hx with rfl | hx
        · exact absurd hn h2
        · exact absurd (hn ▸ hy x hx) h1
theorem insE_len1 {e : Ent} : ∀ {E : List Ent}, (∀ x ∈ E, x.n ≠ e.n) → (insE e E).length = E.length + 1
  | [], _ => rfl
  | y :: t, h => by
    unfold insE
    split
    · rw [List.length_cons, insE_len1 (fun x hx => h x (List.mem_cons_of_mem _ hx)), List.length_cons]
    · split
      · rename_i h2
        exact absurd h2 (h y List.mem_cons_self)
      · rfl
theorem insE_end {e : Ent} : ∀ {E : List Ent}, (∀ x ∈ E, x.n < e.n) → insE e E = E ++ [e]
  | [], _ => rfl
  | y :: t, h => by
    unfold insE
    rw [if_pos (h y List.mem_cons_self), insE_end (fun x hx => h x (List.mem_cons_of_mem _ hx))]
    rfl

theorem enc0 : Enc D0 [] := ⟨tidy_empty, List.Pairwise.nil, fun e h => (by cases h), fun n => (by rw [hasD0]; simp), fun e h => (by cases h), rfl⟩
theorem Enc.put {D : DataW Unit} {E : List Ent} (h : Enc D E) (e : Ent) (he : e.fine) : Enc (putD D e.n e.v e.d) (insE e E) := by
  have hi := h.has e.n
  refine ⟨h.tidy.put (keyLit_str e.n) _, insE_rise h.rise, fun x hx => ?_, fun n => ?_, fun x hx => ?_, ?_⟩
  · rcases (mem_insE h.rise).1 hx with rfl | ⟨hx, -⟩
    · exact he
    · exact h.fine x hx
  · rw [hasD_put h.tidy]
    by_cases hn : n = e.n
    · rw [if_pos hn]
      exact ⟨fun _ => ⟨e, (mem_insE h.rise).2 (.inl rfl), hn.symm⟩, fun _ => rfl⟩
    · rw [if_neg hn, h.has n]
      constructor
      · rintro ⟨x, hx, rfl⟩
        exact ⟨x, (mem_insE h.rise).2 (.inr ⟨hx, hn⟩), rfl⟩
      · rintro ⟨x, hx, rfl⟩
        rcases (mem_insE h.rise).1 hx with rfl | ⟨hx, -⟩
        · exact absurd rfl hn
        · exact ⟨x, hx, rfl⟩
  · rw [verD_put h.tidy, digD_put h.tidy]
    rcases (mem_insE h.rise).1 hx with rfl | ⟨hx, hn⟩
    · rw [if_pos rfl, if_pos rfl]; exact ⟨rfl, rfl⟩
    · rw [if_neg hn, if_neg hn]; exact h.at' x hx
  · rw [sizeD_put h.tidy, h.size]
    by_cases hh : hasD D e.n = true
    · rw [if_pos hh, insE_len h.rise (hi.1 hh)]
    · rw [if_neg hh, insE_len1 (fun x hx hn => hh (hi.2 ⟨x, hx, hn⟩))]
theorem Enc.ver {D : DataW Unit} {E : List Ent} (h : Enc D E) (n : List UInt8) : 0 ≤ verD D n ∧ verD D n ≤ 9007199254740991 := by
  by_cases hh : hasD D n = true
  · obtain ⟨e, he, rfl⟩ := (h.has n).1 hh
    have := (h.at' e he).1
    have := (h.fine e he).2.2
    omega
  · rw [verD_none (by simpa using hh)]; omega
theorem digD_none {D : DataW Unit} {n : List UInt8} (h : hasD D n = false) : digD D n = z32 := by
  unfold digD; rw [atKey_of_not_has h]; rfl
theorem Enc.dig {D : DataW Unit} {E : List Ent} (h : Enc D E) (n : List UInt8) : (digD D n).length = 32 := by
  by_cases hh : hasD D n = true
  · obtain ⟨e, he, rfl⟩ := (h.has n).1 hh
    rw [(h.at' e he).2]
    exact (h.fine e he).2.1
  · rw [digD_none (by simpa using hh)]; rfl
theorem Enc.good {D : DataW Unit} {E : List Ent} (h : Enc D E) (hl : E.length ≤ 64) : GoodD D := ⟨h.tidy, by rw [h.size]; exact hl, h.ver, fun n hn => by
  obtain ⟨e, he, rfl⟩ := (h.has n).1 hn
  have := (h.at' e he).1
  have := (h.fine e he).2.2.1
  omega⟩
theorem Enc.mem {D : DataW Unit} {E : List Ent} (h : Enc D E) (e : Ent) : e ∈ E ↔ hasD D e.n = true ∧ verD D e.n = e.v ∧ digD D e.n = e.d := by
  constructor
  · intro he
    exact ⟨(h.has e.n).2 ⟨e, he, rfl⟩, h.at' e he⟩
  · rintro ⟨h1, h2, h3⟩
    obtain ⟨x, hx, hn⟩ := (h.has e.n).1 h1
    obtain ⟨h4, h5⟩ := h.at' x hx
    rw [hn] at h4 h5
    have : x = e := by
      cases x; cases e
      simp only at hn h2 h3 h4 h5
      subst hn
      have hv := h4.symm.trans h2
      have hd := h5.symm.trans h3
      simp only [Ent.mk.injEq, true_and]
      exact ⟨by omega, hd⟩
    exact this ▸ hx
theorem rise_nodup {E : List Ent} (h : RiseE E) : E.Nodup := h.imp (fun h e => nlt h (congrArg Ent.n e))
theorem rise_ext {E E' : List Ent} (h : RiseE E) (h' : RiseE E') (hm : ∀ e, e ∈ E ↔ e ∈ E') : E = E' :=
  List.Perm.eq_of_pairwise (le := fun a b : Ent => a.n < b.n) (fun _ _ _ _ h1 h2 => absurd (List.lt_trans h1 h2) (List.lt_irrefl _)) h h' ((List.perm_ext_iff_of_nodup (rise_nodup h) (rise_nodup h')).2 hm)
theorem Enc.unique {D D' : DataW Unit} {E E' : List Ent} (h : Enc D E) (h' : Enc D' E') (hh : ∀ n, hasD D n = hasD D' n) (hv : ∀ n, verD D n = verD D' n) (hd : ∀ n, digD D n = digD D' n) : E = E' :=
  rise_ext h.rise h'.rise (fun e => by rw [h.mem, h'.mem, hh, hv, hd])

/-- The bytes of such a list. -/
def encB (life epoch : Nat) (E : List Ent) : List UInt8 := countB life ++ ([UInt8.ofNat epoch] ++ countB E.length) ++ E.flatMap Ent.b

def nlE (E : List Ent) (h : ∀ e ∈ E, e.n.length = 32) : List NameS := E.pmap (fun e h => ⟨e.n, h⟩) h
theorem nlE_map (E : List Ent) (h : ∀ e ∈ E, e.n.length = 32) : (nlE E h).map (fun x : NameS => x.1) = E.map Ent.n := by
  unfold nlE
  rw [List.map_pmap]
  simp
theorem nlE_ents {D : DataW Unit} : ∀ (E : List Ent) (h : ∀ e ∈ E, e.n.length = 32), (∀ e ∈ E, verD D e.n = e.v ∧ digD D e.n = e.d) → entsB D (nlE E h) = E.flatMap Ent.b
  | [], _, _ => rfl
  | e :: t, h, ha => by
    have ih := nlE_ents t (fun x hx => h x (List.mem_cons_of_mem _ hx)) (fun x hx => ha x (List.mem_cons_of_mem _ hx))
    obtain ⟨h1, h2⟩ := ha e List.mem_cons_self
    show (e.n ++ (countB (verD D e.n).toNat ++ digD D e.n)) ++ entsB D (nlE t _) = _
    rw [ih, h1, h2, Int.toNat_natCast]
    rfl
theorem sortL_self {L : List NameS} (h : (L.map (fun x : NameS => x.1)).Pairwise (fun a b => a < b)) : sortL L = L := by
  have tr : ∀ a b c : NameS, (!(ltOf cfN) b a) = true → (!(ltOf cfN) c b) = true → (!(ltOf cfN) c a) = true := fun a b c h1 h2 => by
    rw [leN] at *
    simp only [decide_eq_true_eq] at *
    exact List.le_trans h1 h2
  have tot : ∀ a b : NameS, ((!(ltOf cfN) b a) || (!(ltOf cfN) a b)) = true := fun a b => by
    rw [leN, leN]
    simp only [Bool.or_eq_true, decide_eq_true_eq]
    exact List.le_total a.1 b.1
  refine List.Perm.eq_of_pairwise (le := fun a b => (!(ltOf cfN) b a) = true) (fun a b _ _ h1 h2 => ?_) (List.pairwise_mergeSort tr tot L) ?_ (List.mergeSort_perm L _)
  · rw [leN] at h1 h2
    simp only [decide_eq_true_eq] at h1 h2
    exact Subtype.ext (List.le_antisymm h1 h2)
  · rw [List.pairwise_map] at h
    refine h.imp (fun h => ?_)
    rw [leN]
    simp only [decide_eq_true_eq]
    exact List.le_of_lt h
theorem Enc.names {D : DataW Unit} {E : List Ent} (h : Enc D E) : namesD D = nlE E (fun e he => (h.fine e he).1) := by
  have hs : ((nlE E (fun e he => (h.fine e he).1)).map (fun x : NameS => x.1)).Pairwise (fun a b => a < b) := by
    rw [nlE_map, List.pairwise_map]
    exact h.rise
  rw [← namesD_eq (D := D) (L := nlE E (fun e he => (h.fine e he).1)) (hs.imp nlt) (fun n => by rw [nlE_map, h.has n, List.mem_map]), sortL_self hs]
theorem Enc.bytes {D : DataW Unit} {E : List Ent} (h : Enc D E) (life epoch : Nat) : marksB life epoch D = encB life epoch E := by
  unfold marksB marksL encB
  rw [h.names, nlE_ents E _ h.at', show (nlE E (fun e he => (h.fine e he).1)).length = E.length by unfold nlE; simp]
theorem Enc.note {D : DataW Unit} {E : List Ent} (h : Enc D E) (hl : E.length ≤ 64) {n : List UInt8} (hn : n.length = 32) (v : Int) (env : List UInt8) : ∃ E', Enc (noteD D n v env) E' ∧ E'.length ≤ 64 := by
  unfold noteD
  split
  · rename_i hh
    obtain ⟨h1, h2, h3⟩ := hh
    obtain ⟨b1, b2, -, -⟩ := judge_bounds h1
    have hv := (h.ver n).1
    have hc : ((v.toNat : Nat) : Int) = v := by omega
    have hp := h.put ⟨n, v.toNat, shaB env⟩ ⟨hn, digest_len _ 32, by show 0 < v.toNat; omega, by show v.toNat ≤ _; omega⟩
    simp only [hc] at hp
    refine ⟨_, hp, ?_⟩
    rw [← hp.size, sizeD_put h.tidy, h.size]
    split
    · exact hl
    · rename_i hf
      have : E.length ≠ 64 := fun e => h3 ⟨by simpa using hf, by rw [h.size]; exact e⟩
      omega
  · exact ⟨E, h, hl⟩

/-! ### What Open makes of bytes -/
def pad32 (l : List UInt8) : List UInt8 := l ++ z32.drop l.length
abbrev maxN : Int := 9007199254740991
/-- A name, a version, a digest, as they are read. -/
def rEnt (s : RSt) : Ent × RSt :=
  (⟨pad32 (rRaw 32 s).1, (rCount maxN (rRaw 32 s).2).1, pad32 (rRaw 32 (rCount maxN (rRaw 32 s).2).2).1⟩, (rRaw 32 (rCount maxN (rRaw 32 s).2).2).2)
theorem rRaw_err {n : Nat} {s : RSt} (h : s.2 ≠ 0) : rRaw n s = ([], s) := by unfold rRaw; rw [if_pos h]
theorem rCount_err {m : Int} {s : RSt} (h : s.2 ≠ 0) : rCount m s = (0, s) := by unfold rCount; rw [if_pos h]
theorem rEnt_err {s : RSt} (h : s.2 ≠ 0) : (rEnt s).2 = s := by
  unfold rEnt
  rw [rRaw_err h]
  simp only []
  rw [rCount_err h]
  simp only []
  rw [rRaw_err h]
theorem rRaw_good {n : Nat} {s : RSt} (h : (rRaw n s).2.2 = 0) : s.2 = 0 ∧ s.1 = (rRaw n s).1 ++ (rRaw n s).2.1 ∧ (rRaw n s).1.length = n := by
  unfold rRaw at h ⊢
  split at h
  · rename_i hs; exact absurd h hs
  · rename_i hs
    split at h
    · simp at h
    · rename_i hl
      rw [if_neg hs, if_neg hl]
      refine ⟨by omega, (List.take_append_drop n s.1).symm, ?_⟩
      simp only [List.length_take]
      omega
theorem pad32_of {l : List UInt8} (h : l.length = 32) : pad32 l = l := by
  unfold pad32; rw [h]; simp [z32]
theorem pad32_len {l : List UInt8} (h : l.length ≤ 32) : (pad32 l).length = 32 := by
  unfold pad32; simp [z32]; omega
theorem rRaw_le (n : Nat) (s : RSt) : (rRaw n s).1.length ≤ n := by
  unfold rRaw; split
  · simp
  · split
    · simp
    · simp only [List.length_take]; omega
theorem rEnt_len (s : RSt) : (rEnt s).1.n.length = 32 ∧ (rEnt s).1.d.length = 32 := ⟨pad32_len (rRaw_le _ _), pad32_len (rRaw_le _ _)⟩
theorem rEnt_max (s : RSt) : (rEnt s).1.v ≤ 9007199254740991 := (rCount_le maxN (by decide) _).2
theorem rEnt_good {s : RSt} (h : (rEnt s).2.2 = 0) : s.2 = 0 ∧ s.1 = (rEnt s).1.b ++ (rEnt s).2.1 := by
  obtain ⟨h1, h2, h3⟩ := rRaw_good (s := (rCount maxN (rRaw 32 s).2).2) h
  obtain ⟨h4, h5⟩ := rCount_canon maxN (s := (rRaw 32 s).2) (n := (rCount maxN (rRaw 32 s).2).1) (r := (rCount maxN (rRaw 32 s).2).2.1) (by
    rw [← h1])
  obtain ⟨h6, h7, h8⟩ := rRaw_good (s := s) h4
  refine ⟨h6, ?_⟩
  rw [h7, h5, h2]
  show _ = (pad32 (rRaw 32 s).1 ++ (countB _ ++ pad32 (rRaw 32 (rCount maxN (rRaw 32 s).2).2).1)) ++ _
  rw [pad32_of h3, pad32_of h8, List.append_assoc, List.append_assoc]
  rfl
theorem rEnt_b {e : Ent} (he : e.fine) (r : List UInt8) : rEnt (e.b ++ r, 0) = (e, (r, 0)) := by
  obtain ⟨h1, h2, h3, h4⟩ := he
  have raw : ∀ (a t : List UInt8), a.length = 32 → rRaw 32 (a ++ t, 0) = (a, (t, 0)) := fun a t ha => by
    unfold rRaw
    rw [if_neg (by simp), if_neg (by simp; omega)]
    simp only [Prod.mk.injEq, and_true]
    exact ⟨by rw [← ha]; simp, by rw [← ha]; simp⟩
  have e1 : rRaw 32 (e.b ++ r, 0) = (e.n, (countB e.v ++ (e.d ++ r), 0)) := by
    unfold Ent.b
    rw [List.append_assoc, List.append_assoc]
    exact raw _ _ h1
  have e2 : rCount maxN (countB e.v ++ (e.d ++ r), 0) = (e.v, (e.d ++ r, 0)) := rCount_countB (by show (e.v : Int) ≤ 9007199254740991; omega) h4 _
  unfold rEnt
  rw [e1]
  simp only []
  rw [e2]
  simp only []
  rw [raw _ _ h2]
  simp only []
  rw [pad32_of h1, pad32_of h2]

/-- Open's rounds. -/
def oGo : Nat → Bool → List UInt8 → Bool → DataW Unit → RSt → Bool × DataW Unit × RSt
  | 0, _, _, ok, D, s => (ok, D, s)
  | k + 1, first, last, ok, D, s => oGo k false (rEnt s).1.n (ok && decide (0 < (rEnt s).1.v) && (first || decide (last < (rEnt s).1.n))) (putD D (rEnt s).1.n (rEnt s).1.v (rEnt s).1.d) (rEnt s).2
/-- The document's rounds. -/
def rGo : Nat → List Ent → Bool → RSt → List Ent × Bool × RSt
  | 0, A, ok, s => (A, ok, s)
  | k + 1, A, ok, s => if s.2 ≠ 0 then (A, ok, s) else rGo k (A ++ [(rEnt s).1]) (ok && decide (0 < (rEnt s).1.v) && (A.isEmpty || decide (((A.getLast?).map Ent.n).getD z32 < (rEnt s).1.n))) (rEnt s).2
def foldE (E : List Ent) (D : DataW Unit) : DataW Unit := E.foldl (fun D e => putD D e.n e.v e.d) D
/-- E rises, from behind last on. -/
def RiseL : Bool → List UInt8 → List Ent → Prop
  | _, _, [] => True
  | first, last, e :: t => (first = true ∨ last < e.n) ∧ RiseL false e.n t
theorem oGo_err : ∀ (k : Nat) (first : Bool) (last : List UInt8) (ok : Bool) (D : DataW Unit) (s : RSt), s.2 ≠ 0 → (oGo k first last ok D s).2.2 = s
  | 0, _, _, _, _, _, _ => rfl
  | k + 1, first, last, ok, D, s, h => by
    unfold oGo
    rw [oGo_err k _ _ _ _ _ (by rw [rEnt_err h]; exact h), rEnt_err h]
theorem oGo_fine : ∀ (k : Nat) (first : Bool) (last : List UInt8) (ok : Bool) (D : DataW Unit) (s : RSt), (oGo k first last ok D s).1 = true → (oGo k first last ok D s).2.2.2 = 0 →
    s.2 = 0 ∧ ok = true ∧ ∃ E : List Ent, E.length = k ∧ (∀ e ∈ E, e.fine) ∧ RiseL first last E ∧ s.1 = E.flatMap Ent.b ++ (oGo k first last ok D s).2.2.1 ∧ (oGo k first last ok D s).2.1 = foldE E D
  | 0, _, _, ok, D, s, h1, h2 => ⟨h2, h1, [], rfl, fun e h => (by cases h), trivial, rfl, rfl⟩
  | k + 1, first, last, ok, D, s, h1, h2 => by
    unfold oGo at h1 h2 ⊢
    obtain ⟨g1, g2, E, g3, g4, g5, g6, g7⟩ := oGo_fine k _ _ _ _ _ h1 h2
    obtain ⟨f1, f2⟩ := rEnt_good g1
    simp only [Bool.and_eq_true, decide_eq_true_eq, Bool.or_eq_true] at g2
    obtain ⟨⟨rfl, g2⟩, g8⟩ := g2
    refine ⟨f1, rfl, (rEnt s).1 :: E, by simp [g3], fun e he => ?_, ⟨g8, g5⟩, ?_, g7⟩
    · rcases List.mem_cons.1 he with rfl | he
      · exact ⟨(rEnt_len s).1, (rEnt_len s).2, g2, rEnt_max s⟩
      · exact g4 e he
    · rw [List.flatMap_cons, List.append_assoc, ← g6]
      exact f2
theorem oGo_enc : ∀ (E : List Ent) (first : Bool) (last : List UInt8) (ok : Bool) (D : DataW Unit) (r : List UInt8), (∀ e ∈ E, e.fine) → RiseL first last E → oGo E.length first last ok D (E.flatMap Ent.b ++ r, 0) = (ok, foldE E D, (r, 0))
  | [], _, _, _, _, _, _, _ => rfl
  | e :: t, first, last, ok, D, r, hf, hr => by
    have he := hf e List.mem_cons_self
    rw [List.length_cons, List.flatMap_cons, List.append_assoc]
    unfold oGo
    rw [rEnt_b he]
    have h1 : (ok && decide (0 < e.v) && (first || decide (last < e.n))) = ok := by
      have h2 : decide (0 < e.v) = true := by simpa using he.2.2.1
      have h3 : (first || decide (last < e.n)) = true := by simpa using hr.1
      rw [h2, h3]; simp
    simp only []
    rw [h1]
    exact oGo_enc t false e.n ok _ r (fun x hx => hf x (List.mem_cons_of_mem _ hx)) hr.2
theorem rGo_enc : ∀ (E A : List Ent) (ok : Bool) (r : List UInt8), (∀ e ∈ E, e.fine) → RiseL A.isEmpty (((A.getLast?).map Ent.n).getD z32) E → rGo E.length A ok (E.flatMap Ent.b ++ r, 0) = (A ++ E, ok, (r, 0))
  | [], A, _, _, _, _ => by simp [rGo]
  | e :: t, A, ok, r, hf, hr => by
    have he := hf e List.mem_cons_self
    rw [List.length_cons, List.flatMap_cons, List.append_assoc]
    unfold rGo
    rw [rEnt_b he, if_neg (by simp)]
    have h1 : (ok && decide (0 < e.v) && (A.isEmpty || decide (((A.getLast?).map Ent.n).getD z32 < e.n))) = ok := by
      have h2 : decide (0 < e.v) = true := by simpa using he.2.2.1
      have h3 : (A.isEmpty || decide (((A.getLast?).map Ent.n).getD z32 < e.n)) = true := by simpa using hr.1
      rw [h2, h3]; simp
    simp only []
    rw [h1, rGo_enc t (A ++ [e]) ok r (fun x hx => hf x (List.mem_cons_of_mem _ hx)) (by rw [show (A ++ [e]).isEmpty = false by simp]; simpa using hr.2), List.append_assoc]
    rfl
theorem rGo_err {k : Nat} {A : List Ent} {ok : Bool} {s : RSt} (h : s.2 ≠ 0) : rGo k A ok s = (A, ok, s) := by
  cases k with
  | zero => rfl
  | succ k => unfold rGo; rw [if_pos h]
theorem oGo_rGo : ∀ (k : Nat) (A : List Ent) (first : Bool) (last : List UInt8) (ok : Bool) (D : DataW Unit) (s : RSt), first = A.isEmpty → (first = false → last = ((A.getLast?).map Ent.n).getD z32) →
    (oGo k first last ok D s).2.2 = (rGo k A ok s).2.2 ∧ ((rGo k A ok s).2.2.2 = 0 → (oGo k first last ok D s).1 = (rGo k A ok s).2.1)
  | 0, _, _, _, _, _, _, _, _ => ⟨rfl, fun _ => rfl⟩
  | k + 1, A, first, last, ok, D, s, h1, h2 => by
    by_cases hs : s.2 = 0
    · unfold oGo rGo
      rw [if_neg (by simpa using hs)]
      have hk : (ok && decide (0 < (rEnt s).1.v) && (first || decide (last < (rEnt s).1.n))) = (ok && decide (0 < (rEnt s).1.v) && (A.isEmpty || decide (((A.getLast?).map Ent.n).getD z32 < (rEnt s).1.n))) := by
        rw [← h1]
        cases first with
        | true => simp
        | false => rw [h2 rfl]
      rw [hk]
      exact oGo_rGo k _ _ _ _ _ _ (by simp) (fun _ => by simp)
    · rw [rGo_err hs, oGo_err _ _ _ _ _ _ hs]
      exact ⟨rfl, fun h => absurd h hs⟩
theorem riseL_of : ∀ {E : List Ent} {first : Bool} {last : List UInt8}, RiseL first last E → RiseE E ∧ (first = false → ∀ e ∈ E, last < e.n)
  | [], _, _, _ => ⟨List.Pairwise.nil, fun _ e h => by cases h⟩
  | e :: t, first, last, h => by
    obtain ⟨h1, h2⟩ := h
    obtain ⟨h3, h4⟩ := riseL_of h2
    refine ⟨List.pairwise_cons.2 ⟨h4 rfl, h3⟩, fun hf x hx => ?_⟩
    have h5 : last < e.n := by rcases h1 with h | h; rw [hf] at h; cases h; exact h
    rcases List.mem_cons.1 hx with rfl | hx
    · exact h5
    · exact List.lt_trans h5 (h4 rfl x hx)
theorem of_riseE : ∀ {E : List Ent} {first : Bool} {last : List UInt8}, RiseE E → (first = false → ∀ e ∈ E, last < e.n) → RiseL first last E
  | [], _, _, _, _ => trivial
  | e :: t, first, last, h, h2 => by
    obtain ⟨h3, h4⟩ := List.pairwise_cons.1 h
    refine ⟨?_, of_riseE h4 (fun _ => h3)⟩
    cases first with
    | true => exact .inl rfl
    | false => exact .inr (h2 rfl e List.mem_cons_self)
theorem enc_fold : ∀ (E A : List Ent) (D : DataW Unit), Enc D A → RiseE (A ++ E) → (∀ e ∈ E, e.fine) → Enc (foldE E D) (A ++ E)
  | [], A, D, h, _, _ => by rw [List.append_nil]; exact h
  | e :: t, A, D, h, hr, hf => by
    have h1 := h.put e (hf e List.mem_cons_self)
    rw [insE_end (fun x hx => (List.pairwise_append.1 hr).2.2 x hx e List.mem_cons_self)] at h1
    have h2 := enc_fold t (A ++ [e]) _ h1 (by rw [List.append_assoc]; exact hr) (fun x hx => hf x (List.mem_cons_of_mem _ hx))
    rw [List.append_assoc] at h2
    exact h2

/-- What stands behind the head. -/
def oHead (l : List UInt8) : Nat × Nat × Nat × RSt :=
  ((rCount maxN (l, 0)).1, (rNum1 (rCount maxN (l, 0)).2).1, (rCount 64 (rNum1 (rCount maxN (l, 0)).2).2).1, (rCount 64 (rNum1 (rCount maxN (l, 0)).2).2).2)
abbrev oLife (l : List UInt8) : Nat := (oHead l).1
abbrev oEpoch (l : List UInt8) : Nat := (oHead l).2.1
def oAll (l : List UInt8) : Bool × DataW Unit × RSt := oGo (oHead l).2.2.1 true z32 (decide (oLife l ≤ 1048576)) D0 (oHead l).2.2.2
def rAll (l : List UInt8) : List Ent × Bool × RSt := rGo (oHead l).2.2.1 [] (decide (oLife l ≤ 1048576)) (oHead l).2.2.2
def endE (s : RSt) (ok : Bool) : Nat := if s.2 ≠ 0 then s.2 else if s.1 ≠ [] ∨ ok = false then 4 else 0
abbrev oD (l : List UInt8) : DataW Unit := (oAll l).2.1
def openE (l : List UInt8) : Nat := endE (oAll l).2.2 (oAll l).1
theorem open_same (l : List UInt8) : endE (rAll l).2.2 (rAll l).2.1 = openE l := by
  have h := oGo_rGo (oHead l).2.2.1 [] true z32 (decide (oLife l ≤ 1048576)) D0 (oHead l).2.2.2 rfl (fun h => by cases h)
  unfold openE endE oAll rAll
  rw [h.1]
  by_cases hs : (rGo (oHead l).2.2.1 [] (decide (oLife l ≤ 1048576)) (oHead l).2.2.2).2.2.2 = 0
  · rw [h.2 hs]
  · rw [if_pos hs, if_pos hs]
theorem rNum1_good {s : RSt} (h : (rNum1 s).2.2 = 0) : s.2 = 0 ∧ s.1 = UInt8.ofNat (rNum1 s).1 :: (rNum1 s).2.1 := by
  unfold rNum1 at h ⊢
  split at h
  · rename_i hs; exact absurd h hs
  · rename_i hs
    rw [if_neg hs]
    cases hl : s.1 with
    | nil => rw [hl] at h; simp at h
    | cons b t => exact ⟨by omega, by simp⟩
theorem open_ok {l : List UInt8} (h : openE l = 0) : ∃ E, Enc (oD l) E ∧ E.length ≤ 64 ∧ l = encB (oLife l) (oEpoch l) E ∧ (rAll l).1 = E ∧ oLife l ≤ 1048576 ∧ oEpoch l < 256 := by
  unfold openE endE at h
  split at h
  · rename_i hs; exact absurd h hs
  · rename_i hs
    split at h
    · cases h
    · rename_i hb
      have hs : (oAll l).2.2.2 = 0 := by simpa using hs
      have hb1 : (oAll l).2.2.1 = [] := Decidable.by_contra fun e => hb (.inl e)
      have hb2 : (oAll l).1 = true := by
        cases hk : (oAll l).1 with
        | true => rfl
        | false => exact absurd (.inr hk) hb
      obtain ⟨g1, g2, E, g3, g4, g5, g6, g7⟩ := oGo_fine _ _ _ _ _ _ hb2 hs
      have g6' : (oHead l).2.2.2.1 = E.flatMap Ent.b := by
        rw [g6]
        show E.flatMap Ent.b ++ (oAll l).2.2.1 = _
        rw [hb1, List.append_nil]
      have hc3 := rCount_canon 64 (s := (rNum1 (rCount maxN (l, 0)).2).2) (n := (oHead l).2.2.1) (r := E.flatMap Ent.b) (by
        rw [← g6']
        exact Prod.ext rfl (Prod.ext rfl g1))
      obtain ⟨k1, k2⟩ := rNum1_good hc3.1
      have hc1 := rCount_canon maxN (s := (l, 0)) (n := oLife l) (r := (rCount maxN (l, 0)).2.1) (Prod.ext rfl (Prod.ext rfl k1))
      obtain ⟨hr, -⟩ := riseL_of g5
      have he := enc_fold E [] D0 enc0 (by simpa using hr) g4
      have hn := rCount_le 64 (by decide) (rNum1 (rCount maxN (l, 0)).2).2
      have hn' : E.length ≤ 64 := by
        rw [g3]
        show (rCount 64 (rNum1 (rCount maxN (l, 0)).2).2).1 ≤ 64
        have := hn.1
        omega
      refine ⟨E, ?_, hn', ?_, ?_, by simpa using g2, rNum1_lt _⟩
      · show Enc (oAll l).2.1 E
        rw [show (oAll l).2.1 = foldE E D0 from g7]
        simpa using he
      · have e1 : l = countB (oLife l) ++ (rCount maxN (l, 0)).2.1 := hc1.2
        have e2 : (rCount maxN (l, 0)).2.1 = UInt8.ofNat (oEpoch l) :: (rNum1 (rCount maxN (l, 0)).2).2.1 := k2
        have e3 : (rNum1 (rCount maxN (l, 0)).2).2.1 = countB (oHead l).2.2.1 ++ E.flatMap Ent.b := hc3.2
        have e4 : l = countB (oLife l) ++ (UInt8.ofNat (oEpoch l) :: (countB (oHead l).2.2.1 ++ E.flatMap Ent.b)) := by
          rw [← e3, ← e2]; exact e1
        unfold encB
        rw [g3, List.append_assoc, List.append_assoc]
        exact e4
      · unfold rAll
        have e5 : (oHead l).2.2.2 = (E.flatMap Ent.b ++ [], 0) := by
          rw [List.append_nil, ← g6']
          exact Prod.ext rfl g1
        rw [e5, ← g3, rGo_enc E [] _ [] g4 g5]
        rfl
theorem open_enc {life epoch : Nat} {E : List Ent} (hl : life ≤ 1048576) (he : epoch < 256) (hE : E.length ≤ 64) (hr : RiseE E) (hf : ∀ e ∈ E, e.fine) :
    openE (encB life epoch E) = 0 ∧ oLife (encB life epoch E) = life ∧ oEpoch (encB life epoch E) = epoch ∧ Enc (oD (encB life epoch E)) E := by
  have e1 : rCount maxN (encB life epoch E, 0) = (life, (UInt8.ofNat epoch :: (countB E.length ++ E.flatMap Ent.b), 0)) := by
    unfold encB
    rw [List.append_assoc, List.append_assoc]
    exact rCount_countB (by show (life : Int) ≤ 9007199254740991; omega) (by omega) _
  have e2 : rNum1 (UInt8.ofNat epoch :: (countB E.length ++ E.flatMap Ent.b), 0) = (epoch, (countB E.length ++ E.flatMap Ent.b, 0)) := by
    unfold rNum1
    rw [if_neg (by simp)]
    simp only [UInt8.toNat_ofNat', Prod.mk.injEq, and_true]
    omega
  have e3 : rCount 64 (countB E.length ++ E.flatMap Ent.b, 0) = (E.length, (E.flatMap Ent.b, 0)) := rCount_countB (by omega) (by omega) _
  have hh : oHead (encB life epoch E) = (life, epoch, E.length, (E.flatMap Ent.b, 0)) := by
    unfold oHead
    rw [e1]; simp only []
    rw [e2]; simp only []
    rw [e3]
  have h1 : oLife (encB life epoch E) = life := by unfold oLife; rw [hh]
  have ha : oAll (encB life epoch E) = (true, foldE E D0, ([], 0)) := by
    unfold oAll
    rw [h1, hh]
    simp only []
    have := oGo_enc E true z32 (decide (life ≤ 1048576)) D0 [] hf (of_riseE hr (fun h => by cases h))
    rw [List.append_nil] at this
    rw [this, show decide (life ≤ 1048576) = true by simpa using hl]
  refine ⟨by unfold openE; rw [ha]; simp [endE], h1, by unfold oEpoch; rw [hh], ?_⟩
  unfold oD
  rw [ha]
  simpa using enc_fold E [] D0 enc0 (by simpa using hr) hf
end Go.Proofs.YtfgfhfmhadondaaDoor
