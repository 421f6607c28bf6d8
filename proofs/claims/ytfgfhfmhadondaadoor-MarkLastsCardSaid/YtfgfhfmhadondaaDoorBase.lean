/- Plain words used by all texts of this claim: what a call may have changed in memory (Ext), slices that can be read (Rd, Bytes), append. No Go program in sight. -/
import Derived.WalkKit
import Derived.Lib.Hide
import Derived.Deep.QuietTactic
import Derived.BigQuiet
import Derived.Deep.RegionHeld3
import Derived.Deep.RegionLaw
import Derived.StillTailTactics
import Derived.IntWalk
import Derived.WalkSpells
import Derived.WalkLawsBesides
namespace Go.Proofs.YtfgfhfmhadondaaDoor
open Go.RowKit

/-- A byte's cell. -/
abbrev byt (b : UInt8) : Value := .int .u8 (b.toNat : Int)

/-- A bound on lengths, behind a name. -/
def big : Nat := 1099511627776
theorem big_eq : big = 1099511627776 := rfl

/-- No block. -/
abbrev nob : Nat → Prop := fun _ => False

/-- w' is w, but for the blocks in F, and new blocks. -/
structure Ext (F : Nat → Prop) (w w' : World) : Prop where
  os : w'.os = w.os
  tape : w'.tape = w.tape
  output : w'.output = w.output
  size : w.heap.size ≤ w'.heap.size
  block : ∀ k, k < w.heap.size → ¬ F k → w'.heap[k]? = w.heap[k]?

theorem Ext.refl (F : Nat → Prop) (w : World) : Ext F w w := ⟨rfl, rfl, rfl, Nat.le_refl _, fun _ _ _ => rfl⟩
theorem Ext.trans {F G : Nat → Prop} {a b c : World} (h : Ext F a b) (k : Ext G b c) (hs : ∀ i, i < a.heap.size → G i → F i) : Ext F a c :=
  ⟨k.os.trans h.os, k.tape.trans h.tape, k.output.trans h.output, Nat.le_trans h.size k.size,
   fun i hi hf => (k.block i (Nat.lt_of_lt_of_le hi h.size) (fun g => hf (hs i hi g))).trans (h.block i hi hf)⟩
theorem Ext.trans' {F : Nat → Prop} {a b c : World} (h : Ext F a b) (k : Ext F b c) : Ext F a c := h.trans k (fun _ _ g => g)
theorem Ext.mono {F G : Nat → Prop} {a b : World} (h : Ext F a b) (hs : ∀ i, i < a.heap.size → F i → G i) : Ext G a b :=
  ⟨h.os, h.tape, h.output, h.size, fun i hi hf => h.block i hi (fun g => hf (hs i hi g))⟩
theorem Ext.drew {F : Nat → Prop} {a w : World} (h : Ext F a w) : Ext F a w.drew := ⟨h.os, h.tape, h.output, h.size, h.block⟩
theorem Ext.drewN {F : Nat → Prop} {a w : World} (h : Ext F a w) (n : Nat) : Ext F a (w.drewN n) := ⟨h.os, h.tape, h.output, h.size, h.block⟩
theorem Ext.undrew {F : Nat → Prop} {a w : World} (h : Ext F a.drew w) : Ext F a w := ⟨h.os, h.tape, h.output, h.size, h.block⟩
theorem Ext.undrewN {F : Nat → Prop} {a w : World} {n : Nat} (h : Ext F (a.drewN n) w) : Ext F a w := ⟨h.os, h.tape, h.output, h.size, h.block⟩
theorem Ext.alloc {F : Nat → Prop} {a w : World} (h : Ext F a w) (o : Obj) : Ext F a (w.alloc o) :=
  h.trans' ⟨rfl, rfl, rfl, by simp, fun k hk _ => Below.heap_alloc _ _ _ hk⟩
theorem Ext.setCell {F : Nat → Prop} {a w : World} (h : Ext F a w) (p : Addr) (u : Value) (hp : p.block < a.heap.size → F p.block) : Ext F a (w.setCell p u) :=
  h.trans (G := fun k => k = p.block) ⟨rfl, rfl, rfl, by simp [World.setCell], fun k _ hf => Below.heap_setCell _ _ _ _ hf⟩ (fun i hi g => by subst g; exact hp hi)
theorem Ext.grown {F : Nat → Prop} {a w w' : World} {row : Option Nat} (h : Ext F a w) (hg : w.grownBy w' row) (hr : ∀ k, row = some k → k < a.heap.size → F k) : Ext F a w' :=
  h.trans (G := fun k => row = some k) ⟨hg.os, hg.tape, hg.output, hg.size, fun k hk hf => hg.block k hk (fun e => hf e.symm)⟩ (fun i hi g => hr i g hi)
theorem Ext.grow {w w' : World} {row : Option Nat} (hg : w.grownBy w' row) : Ext (fun k => row = some k) w w' :=
  ⟨hg.os, hg.tape, hg.output, hg.size, fun k hk hf => hg.block k hk (fun e => hf e.symm)⟩
theorem Ext.blk {F : Nat → Prop} {w w' : World} (h : Ext F w w') {k : Nat} {o : Obj} (hb : w.heap[k]? = some o) (hf : ¬ F k) : w'.heap[k]? = some o :=
  (h.block k (Array.getElem?_eq_some_iff.1 hb).1 hf).trans hb
theorem Ext.cell {F : Nat → Prop} {w w' : World} (h : Ext F w w') {p : Addr} {v : Value} (hc : w.cell? p = some v) (hf : ¬ F p.block) : w'.cell? p = some v :=
  (World.cell?_of_block (h.block p.block (World.block_lt_of_cell? w p hc) hf)).trans hc
theorem Ext.frozen {F : Nat → Prop} {w w' : World} (h : Ext F w w') {p : Addr} (hl : p.block < w.heap.size) (hf : ¬ F p.block) : w'.frozen? p = w.frozen? p :=
  World.frozen?_of_block (h.block p.block hl hf)
theorem Ext.below {F : Nat → Prop} {w w' : World} (h : Ext F w w') {B : Nat} (hB : B ≤ w.heap.size) (hF : ∀ k, F k → B ≤ k) : Below B w w' :=
  ⟨h.os, h.tape, h.output, h.size, fun k hk => h.block k (by omega) (fun g => by have := hF k g; omega)⟩
theorem Ext.nob {F : Nat → Prop} {w w' : World} (h : Ext nob w w') : Ext F w w' := h.mono (fun _ _ g => g.elim)

theorem blk_lt {w : World} {k : Nat} {o : Obj} (h : w.heap[k]? = some o) : k < w.heap.size := (Array.getElem?_eq_some_iff.1 h).1
theorem blk_alloc {w : World} {k : Nat} {o : Obj} (h : w.heap[k]? = some o) (x : Obj) : (w.alloc x).heap[k]? = some o := (Below.heap_alloc w x k (blk_lt h)).trans h
theorem blk_new (w : World) (x : Obj) : (w.alloc x).heap[w.heap.size]? = some x := heap_alloc_new w x
theorem blk_far {w : World} {k : Nat} {o : Obj} (h : w.heap[k]? = some o) (a : Addr) (v : Value) (hk : k ≠ a.block) : (w.setCell a v).heap[k]? = some o := (Below.heap_setCell w a v k hk).trans h
theorem blk_set {w : World} {k : Nat} {c : Array Value} {T : TypeId} {f : Nat × Nat} (h : w.heap[k]? = some (.cells c T f)) (i : Nat) (v : Value) : (w.setCell ⟨k, i, none⟩ v).heap[k]? = some (.cells (c.setIfInBounds i v) T f) := by
  simp [World.setCell, Array.getElem?_modify, h]
theorem cells1 {w : World} {p : Nat} {a : Value} {T : TypeId} (h : w.heap[p]? = some (.cells #[a] T (0, 0))) :
    w.cell? ⟨p, 0, none⟩ = some a ∧ w.frozen? ⟨p, 0, none⟩ = false ∧ p < w.heap.size := by
  refine ⟨?_, ?_, blk_lt h⟩ <;> simp [World.cell?, World.frozen?, h]
theorem cells2 {w : World} {p : Nat} {a b : Value} {T : TypeId} (h : w.heap[p]? = some (.cells #[a, b] T (0, 0))) :
    w.cell? ⟨p, 0, none⟩ = some a ∧ w.cell? ⟨p, 1, none⟩ = some b ∧ w.frozen? ⟨p, 0, none⟩ = false ∧ w.frozen? ⟨p, 1, none⟩ = false ∧ p < w.heap.size := by
  refine ⟨?_, ?_, ?_, ?_, blk_lt h⟩ <;> simp [World.cell?, World.frozen?, h]
theorem cells3 {w : World} {p : Nat} {a b c : Value} {T : TypeId} (h : w.heap[p]? = some (.cells #[a, b, c] T (0, 0))) :
    w.cell? ⟨p, 0, none⟩ = some a ∧ w.cell? ⟨p, 1, none⟩ = some b ∧ w.cell? ⟨p, 2, none⟩ = some c ∧ w.frozen? ⟨p, 0, none⟩ = false ∧ w.frozen? ⟨p, 1, none⟩ = false ∧ w.frozen? ⟨p, 2, none⟩ = false ∧ p < w.heap.size := by
  refine ⟨?_, ?_, ?_, ?_, ?_, ?_, blk_lt h⟩ <;> simp [World.cell?, World.frozen?, h]
theorem cells4 {w : World} {p : Nat} {a b c d : Value} {T : TypeId} (h : w.heap[p]? = some (.cells #[a, b, c, d] T (0, 0))) :
    w.cell? ⟨p, 0, none⟩ = some a ∧ w.cell? ⟨p, 1, none⟩ = some b ∧ w.cell? ⟨p, 2, none⟩ = some c ∧ w.cell? ⟨p, 3, none⟩ = some d ∧ w.frozen? ⟨p, 0, none⟩ = false ∧ w.frozen? ⟨p, 1, none⟩ = false ∧ w.frozen? ⟨p, 2, none⟩ = false ∧ w.frozen? ⟨p, 3, none⟩ = false ∧ p < w.heap.size := by
  refine ⟨?_, ?_, ?_, ?_, ?_, ?_, ?_, ?_, blk_lt h⟩ <;> simp [World.cell?, World.frozen?, h]

theorem cells8 {w : World} {p : Nat} {a0 a1 a2 a3 a4 a5 a6 a7 : Value} {T : TypeId} (h : w.heap[p]? = some (.cells #[a0, a1, a2, a3, a4, a5, a6, a7] T (0, 0))) :
    w.cell? ⟨p, 0, none⟩ = some a0 ∧ w.cell? ⟨p, 1, none⟩ = some a1 ∧ w.cell? ⟨p, 2, none⟩ = some a2 ∧ w.cell? ⟨p, 3, none⟩ = some a3 ∧ w.cell? ⟨p, 4, none⟩ = some a4 ∧ w.cell? ⟨p, 5, none⟩ = some a5 ∧ w.cell? ⟨p, 6, none⟩ = some a6 ∧ w.cell? ⟨p, 7, none⟩ = some a7 ∧ p < w.heap.size := by
  refine ⟨?_, ?_, ?_, ?_, ?_, ?_, ?_, ?_, blk_lt h⟩ <;> simp [World.cell?, h]

/-- A result that lies in a row of cells. -/
theorem ret_row {P : Program} {fn : Func} {R : Ending → World → Prop} {a : Act} {w : World} (p : Tmp) (ty : TypeId) (h : fn.results = #[.cell p ty]) (g : Nat) (hp : a.tmps.getD p undef = .pointer (some ⟨g, 0, none⟩)) (t : TypeId) (cs : Array Value) (fr : Nat × Nat) (hg : w.heap[g]? = some (.cells cs t fr)) (d : TypeDesc)
    (hu : P.underlying ty = some d) (hd : (match d with | .struct _ | .array _ _ => true | _ => false) = true) (hi : (P.info? ty).map (·.size) = some cs.size) (hde : a.defers = []) (hR : R (.returned (.agg cs)) w) : bodyPost P fn R .ret a w :=
  bodyPost_ret (results_cell_row h a.tmps w g t cs fr d hp hg hu hd hi) hde hR

/-- The cells that a slice's address leads to read as cs. -/
def Rd (w : World) (ao : Option Addr) (cs : List Value) : Prop :=
  ∀ j u, cs[j]? = some u → ∃ g o, ao = some ⟨g, o, none⟩ ∧ w.cell? ⟨g, o + j, none⟩ = some u

/-- The block of an address. -/
def inA (ao : Option Addr) (k : Nat) : Prop := ∃ a, ao = some a ∧ a.block = k

theorem Rd.nil (w : World) (ao : Option Addr) : Rd w ao [] := fun j u h => by simp at h
theorem Rd.ext {F : Nat → Prop} {w w' : World} {ao : Option Addr} {cs : List Value} (h : Rd w ao cs) (e : Ext F w w') (hf : ∀ k, inA ao k → ¬ F k) : Rd w' ao cs := by
  intro j u hj
  obtain ⟨g, o, rfl, hc⟩ := h j u hj
  exact ⟨g, o, rfl, e.cell hc (hf g ⟨_, rfl, rfl⟩)⟩
theorem Rd.cell {w : World} {g o : Nat} {cs : List Value} (h : Rd w (some ⟨g, o, none⟩) cs) (j : Nat) (u : Value) (hj : cs[j]? = some u) : w.cell? ⟨g, o + j, none⟩ = some u := by
  obtain ⟨g', o', e, hc⟩ := h j u hj
  cases e; exact hc
theorem Rd.addr {w : World} {ao : Option Addr} {cs : List Value} (h : Rd w ao cs) (hn : cs ≠ []) : ∃ g o, ao = some ⟨g, o, none⟩ := by
  cases cs with
  | nil => exact absurd rfl hn
  | cons u t => obtain ⟨g, o, e, _⟩ := h 0 u (by simp); exact ⟨g, o, e⟩
theorem Rd.lt {w : World} {ao : Option Addr} {cs : List Value} (h : Rd w ao cs) (hn : cs ≠ []) (k : Nat) (hk : inA ao k) : k < w.heap.size := by
  cases cs with
  | nil => exact absurd rfl hn
  | cons u t =>
    obtain ⟨g, o, e, hc⟩ := h 0 u (by simp)
    obtain ⟨a, ha, rfl⟩ := hk
    rw [e] at ha; cases ha
    exact World.block_lt_of_cell? w _ hc
/-- as the kit's laws ask it -/
theorem Rd.news {w : World} {ad : Addr} {cs : List Value} (h : Rd w (some ad) cs) : ∀ j u, cs[j]? = some u → w.cell? (ad.add j) = some u := by
  intro j u hj
  obtain ⟨g, o, e, hc⟩ := h j u hj
  cases e
  rw [Addr.add_lit]; exact hc
theorem Rd.drop {w : World} {ao : Option Addr} {cs : List Value} (h : Rd w ao cs) (n : Nat) {ao' : Option Addr} (hao : ∀ a, n < cs.length → ao = some a → ao' = some (a.add n)) : Rd w ao' (cs.drop n) := by
  intro j u hj
  rw [List.getElem?_drop] at hj
  obtain ⟨g, o, e, hc⟩ := h _ _ hj
  have hlt := (List.getElem?_eq_some_iff.1 hj).1
  refine ⟨g, o + n, ?_, by rw [Nat.add_assoc]; exact hc⟩
  rw [hao _ (by omega) e, Addr.add_lit]
theorem Rd.take {w : World} {ao : Option Addr} {cs : List Value} (h : Rd w ao cs) (n : Nat) : Rd w ao (cs.take n) := by
  intro j u hj
  rw [List.getElem?_take] at hj
  split at hj
  · exact h j u hj
  · cases hj
theorem Rd.left {w : World} {ao : Option Addr} {cs ds : List Value} (h : Rd w ao (cs ++ ds)) : Rd w ao cs := by
  have := h.take cs.length
  rwa [List.take_left] at this
theorem Rd.of_heap {w : World} {g : Nat} {cur : Array Value} {e : TypeId} {f : Nat × Nat} {cs : List Value} (h : w.heap[g]? = some (.cells cur e f)) (o : Nat) (hs : ∀ j u, cs[j]? = some u → cur[o + j]? = some u) : Rd w (some ⟨g, o, none⟩) cs := by
  intro j u hj
  exact ⟨g, o, rfl, by simp [World.cell?, h, hs j u hj]⟩

/-- A []byte's cells read as l, n bytes. -/
def Bytes (w : World) (ao : Option Addr) (n : Nat) (l : List UInt8) : Prop := l.length = n ∧ Rd w ao (l.map byt)

theorem Bytes.ext {F : Nat → Prop} {w w' : World} {ao : Option Addr} {n : Nat} {l : List UInt8} (h : Bytes w ao n l) (e : Ext F w w') (hf : ∀ k, inA ao k → ¬ F k) : Bytes w' ao n l := ⟨h.1, h.2.ext e hf⟩
theorem Bytes.nil (w : World) (ao : Option Addr) : Bytes w ao 0 [] := ⟨rfl, Rd.nil w ao⟩
theorem Bytes.cell {w : World} {g o n : Nat} {l : List UInt8} (h : Bytes w (some ⟨g, o, none⟩) n l) (j : Nat) (hj : j < l.length) : w.cell? ⟨g, o + j, none⟩ = some (.int .u8 (l[j].toNat : Int)) :=
  h.2.cell j _ (by simp [List.getElem?_eq_getElem hj])
theorem Bytes.addr {w : World} {ao : Option Addr} {n : Nat} {l : List UInt8} (h : Bytes w ao n l) (hn : 0 < n) : ∃ g o, ao = some ⟨g, o, none⟩ :=
  h.2.addr (by intro e; have := h.1; simp at e; subst e; simp at this; omega)
theorem Bytes.lt {w : World} {ao : Option Addr} {n : Nat} {l : List UInt8} (h : Bytes w ao n l) (hn : 0 < n) (k : Nat) (hk : inA ao k) : k < w.heap.size :=
  h.2.lt (by intro e; have := h.1; simp at e; subst e; simp at this; omega) k hk
theorem Bytes.drop {w : World} {ao : Option Addr} {n : Nat} {l : List UInt8} (h : Bytes w ao n l) (k : Nat) {ao' : Option Addr} (hao : ∀ a, k < n → ao = some a → ao' = some (a.add k)) : Bytes w ao' (n - k) (l.drop k) :=
  ⟨by simp [h.1], by rw [List.map_drop]; exact h.2.drop k (fun a hk e => hao a (by simp [h.1] at hk; exact hk) e)⟩
theorem Bytes.take {w : World} {ao : Option Addr} {n : Nat} {l : List UInt8} (h : Bytes w ao n l) (k : Nat) (hk : k ≤ n) : Bytes w ao k (l.take k) :=
  ⟨by simp [h.1]; omega, by rw [List.map_take]; exact h.2.take k⟩

/-- 'string(b)'. -/
theorem Bytes.str {P : Program} {w : World} {ao : Option Addr} {n : Nat} {l : List UInt8} (h : Bytes w ao n l) (src dst e : TypeId) (cap : Nat) (hs : P.underlying src = some (.slice e)) (he : P.underlying e = some (.int .u8)) (hd : P.underlying dst = some .string) :
    (convert src dst (.slice ao n cap)).run P w = .ok (.string ⟨l.toArray⟩) w := by
  obtain ⟨rfl, hr⟩ := h
  cases ao with
  | some a =>
    refine run_convert_bytes_back w src dst e a cap l hs he hd (fun j hj => ?_)
    exact hr.news j _ (by simp [List.getElem?_eq_getElem hj])
  | none =>
    cases l with
    | nil => exact run_convert_bytes_nil w src e hs he 0 cap dst hd
    | cons b t => obtain ⟨g, o, e, _⟩ := hr 0 (byt b) (by simp); cases e

theorem oneCell_byt (l : List UInt8) : ∀ u ∈ l.map byt, u.oneCell' = true := by
  intro u hu
  obtain ⟨b, _, rfl⟩ := List.mem_map.1 hu
  rfl

/-- A slice value owns the cells xs (n elements of 'size' cells): nil, or the head of a row. -/
abbrev Own (w : World) (e : TypeId) (size : Nat) (v : Value) (n : Nat) (xs : List Value) : Prop := w.ownsRow 0 e size v n xs

theorem own_base {w : World} {B : Nat} {e : TypeId} {size : Nat} {v : Value} {n : Nat} {xs : List Value} (h : w.ownsRow B e size v n xs) : Own w e size v n xs := by
  refine ⟨h.1, ?_⟩
  rcases h.2 with h2 | ⟨g, cap, cur, hv, _, r⟩
  · exact .inl h2
  · exact .inr ⟨g, cap, cur, hv, Nat.zero_le _, r⟩

theorem Own.ext {F : Nat → Prop} {w w' : World} {e : TypeId} {size : Nat} {v : Value} {n : Nat} {xs : List Value} (h : Own w e size v n xs) (x : Ext F w w') (hf : ∀ k, v.ownBlock = some k → ¬ F k) : Own w' e size v n xs := by
  refine ⟨h.1, ?_⟩
  rcases h.2 with h2 | ⟨g, cap, cur, rfl, h0, hg, r⟩
  · exact .inl h2
  · exact .inr ⟨g, cap, cur, rfl, h0, x.blk hg (hf g (by simp [Value.ownBlock])), r⟩

theorem Own.shape {w : World} {e : TypeId} {size : Nat} {v : Value} {n : Nat} {xs : List Value} (h : Own w e size v n xs) : ∃ ao cap, v = .slice ao n cap ∧ Rd w ao xs ∧ (ao = none → n = 0 ∧ cap = 0) ∧ n ≤ cap ∧ (∀ k, inA ao k → v.ownBlock = some k) := by
  rcases h.2 with ⟨rfl, rfl⟩ | ⟨g, cap, cur, rfl, h0, hg, hn, hc, hs, ht⟩
  · have hx : xs = [] := List.eq_nil_of_length_eq_zero (by simpa using h.1)
    subst hx
    exact ⟨none, 0, rfl, Rd.nil _ _, fun _ => ⟨rfl, rfl⟩, Nat.le_refl _, fun k ⟨a, ha, _⟩ => by cases ha⟩
  · refine ⟨some ⟨g, 0, none⟩, cap, rfl, ?_, (fun h => by cases h), hn, ?_⟩
    · refine Rd.of_heap hg 0 (fun j u hj => ?_)
      rw [← ht, List.getElem?_take] at hj
      split at hj
      · simpa using hj
      · cases hj
    · rintro k ⟨a, ha, rfl⟩; cases ha; rfl

theorem Own.lt' {w : World} {e : TypeId} {size : Nat} {v : Value} {n : Nat} {xs : List Value} (h : Own w e size v n xs) : ∀ k, v.ownBlock = some k → k < w.heap.size := fun k hk => (World.ownsRow.lt h k hk).2
theorem Own.ne {w : World} {e : TypeId} {size : Nat} {v : Value} {n : Nat} {xs : List Value} (h : Own w e size v n xs) {p : Nat} {c : Array Value} {T : TypeId} {f : Nat × Nat} (hp : w.heap[p]? = some (.cells c T f)) (ht : T ≠ e) : v.ownBlock ≠ some p := by
  intro hk
  rcases h.2 with ⟨rfl, _⟩ | ⟨g, cap, cur, rfl, _, hg, _⟩
  · simp [Value.ownBlock] at hk
  · simp [Value.ownBlock] at hk
    subst hk
    rw [hp] at hg
    simp at hg
    exact ht hg.2.1
theorem Own.rd {w : World} {e : TypeId} {size : Nat} {v : Value} {n : Nat} {xs : List Value} (h : Own w e size v n xs) {ao : Option Addr} {m cap : Nat} (hv : v = .slice ao m cap) : m = n ∧ Rd w ao xs := by
  obtain ⟨ao', cap', rfl, hr, _⟩ := Own.shape h
  cases hv; exact ⟨rfl, hr⟩

theorem own_new (w : World) (e : TypeId) (v : Value) : Own (w.alloc (.cells #[v] e)) e 1 (.slice (some ⟨w.heap.size, 0, none⟩) 1 1) 1 [v] :=
  ⟨rfl, .inr ⟨w.heap.size, 1, #[v], rfl, Nat.zero_le _, blk_new w _, Nat.le_refl _, by unfold maxLen; omega, rfl, rfl⟩⟩
theorem own_zero (w : World) (e : TypeId) (size : Nat) : Own (w.alloc (.cells #[] e)) e size (.slice (some ⟨w.heap.size, 0, none⟩) 0 0) 0 [] :=
  ⟨by simp, .inr ⟨w.heap.size, 0, #[], rfl, Nat.zero_le _, blk_new w _, Nat.le_refl _, by unfold maxLen; omega, by simp, by simp⟩⟩
theorem bytes_new (w : World) (T : TypeId) (x : Int) (b : UInt8) (hx : x = (b.toNat : Int)) : Bytes (w.alloc (.cells #[.int .u8 x] T)) (some ⟨w.heap.size, 0, none⟩) 1 [b] := by
  subst hx
  exact ⟨rfl, Rd.of_heap (blk_new w _) 0 (fun j u hj => by
    match j, hj with
    | 0, hj => simpa using hj)⟩

theorem ownBlock_in {ao : Option Addr} {n c k : Nat} (h : (Value.slice ao n c).ownBlock = some k) : inA ao k := by
  cases ao with
  | none => simp [Value.ownBlock] at h
  | some a => simp [Value.ownBlock] at h; exact ⟨a, rfl, h⟩
theorem in_map {ao : Option Addr} {k n : Nat} (h : inA (ao.map (·.add n)) k) : inA ao k := by
  obtain ⟨a, ha, rfl⟩ := h
  cases ao with
  | none => cases ha
  | some b => simp at ha; subst ha; exact ⟨b, rfl, by unfold Addr.add; split <;> rfl⟩
theorem in_ownBlock {ao : Option Addr} {n c k : Nat} (h : inA ao k) : (Value.slice ao n c).ownBlock = some k := by
  obtain ⟨a, rfl, rfl⟩ := h; rfl

section
variable {P : Program} (w : World)

theorem run_append_none (t ty e : TypeId) (i : TypeInfo) (ht : P.underlying t = some (.slice e)) (hi : P.info? e = some i) (ao : Option Addr) (n cap c : Nat) (bo : Option Addr) (hn : n ≤ cap) :
    (Builtin.append_ #[t, t] ty #[.slice ao n cap, .slice bo 0 c]).run P w = .ok (.slice ao n cap) w := by
  cases bo with
  | none => cases ao <;> simp [Builtin.append_, run_underlying ht, sizeOf, typeInfo, hi, Builtin.lenOf, hn, Builtin.firstCells, storeCells]
  | some b => cases ao <;> simp [Builtin.append_, run_underlying ht, sizeOf, typeInfo, hi, Builtin.lenOf, hn, Builtin.firstCells, loadCells, loadCellsFrom, storeCells]

/-- 'append(v, x...)', v the call's own. -/
theorem run_app (t ty e : TypeId) (i : TypeInfo) (z : Value) (size bytes : Nat) (ht : P.underlying t = some (.slice e)) (hi : P.info? e = some i) (hz : i.zero = some z)
    (hsize : i.size = size) (hby : i.bytes = bytes) (hzs : z.cells.size = size) (hsz : 0 < size)
    (v : Value) (n : Nat) (xs : List Value) (hown : Own w e size v n xs)
    (ao : Option Addr) (m c : Nat) (news : List Value) (hl : news.length = m * size) (hnews : Rd w ao news) (h1 : ∀ u ∈ news, u.oneCell' = true)
    (hbytes : (n + m) * bytes ≤ 140737488355328) (h63 : n + m ≤ maxLen) :
    ∃ v' w', (Builtin.append_ #[t, t] ty #[v, .slice ao m c]).run P w = .ok v' w' ∧ Own w' e size v' (n + m) (xs ++ news) ∧ Ext (fun k => v.ownBlock = some k) w w' ∧
      (∀ k, v'.ownBlock = some k → v.ownBlock = some k ∨ w.heap.size ≤ k) := by
  by_cases hm : m = 0
  · subst hm
    have hn : news = [] := List.eq_nil_of_length_eq_zero (by simpa using hl)
    subst hn
    obtain ⟨bo, cap, rfl, _, _, hnc, _⟩ := Own.shape hown
    exact ⟨_, w, run_append_none w t ty e i ht hi bo n cap c ao hnc, by simpa using hown, Ext.refl _ _, fun k hk => .inl hk⟩
  · obtain ⟨ga, oa, rfl⟩ := hnews.addr (by intro e0; subst e0; rcases Nat.mul_eq_zero.1 (by simpa using hl.symm) with h | h <;> omega)
    have hN := hnews.news
    by_cases hv : v = .slice none 0 0 ∧ n = 0
    · obtain ⟨rfl, rfl⟩ := hv
      have hx : xs = [] := List.eq_nil_of_length_eq_zero (by simpa using hown.1)
      subst hx
      obtain ⟨v', w', hr, ho, hg, _⟩ := run_append_own (P := P) w w.heap.size t ty e i z size bytes ht hi hz hsize hby hzs hsz _ 0 [] (World.ownsRow_nil w w.heap.size e size) _ m c news hl hN h1 h63 hbytes (Nat.le_refl _)
      exact ⟨v', w', hr, own_base ho, Ext.grow hg |>.mono (fun i _ h => by simpa using h), fun k hk => .inr (ho.lt k hk).1⟩
    · rcases hown.2 with h2 | ⟨g, cap, cur, rfl, h0, hg, hn, hc, hs, htk⟩
      · exact absurd h2 hv
      · by_cases hroom : n + m ≤ cap
        · obtain ⟨v', w', hr, ho, hgr, _⟩ := run_append_own (P := P) w 0 t ty e i z size bytes ht hi hz hsize hby hzs hsz _ n xs hown _ m c news hl hN h1 h63 hbytes (Nat.zero_le _)
          have hr2 := run_append_room (P := P) w t ty e i ht hi g n cap cur hg ⟨ga, oa, none⟩ m c news (by rw [hl, hsize]) hN h1 hroom (by rw [hl, hs, hsize, ← Nat.add_mul]; exact Nat.mul_le_mul_right _ hroom)
          rw [hr2] at hr
          simp only [Result.ok.injEq] at hr
          obtain ⟨rfl, rfl⟩ := hr
          refine ⟨_, _, hr2, ho, (Ext.grow hgr).mono (fun i _ h => by simpa using h), fun k hk => .inl ?_⟩
          simpa [Value.ownBlock] using hk
        · have holds : ∀ j u, xs[j]? = some u → w.cell? ((⟨g, 0, none⟩ : Addr).add j) = some u := hown.cells (g := g) rfl
          obtain ⟨v', w', hr, ho, hgr⟩ := run_append_arg_grows (P := P) w t ty e i z size bytes ht hi hz hsize hby hzs hsz ⟨g, 0, none⟩ n cap xs hown.1 holds ⟨ga, oa, none⟩ m c news hl hN (by omega) h63 hbytes
          exact ⟨v', w', hr, own_base ho, (Ext.grow hgr).mono (fun i _ h => by cases h), fun k hk => .inr (ho.lt k hk).1⟩

/-- 'append(s, x...)', s only read, and full: a new row, unless nothing is appended. -/
theorem run_app_full (t ty e : TypeId) (i : TypeInfo) (z : Value) (size bytes : Nat) (ht : P.underlying t = some (.slice e)) (hi : P.info? e = some i) (hz : i.zero = some z)
    (hsize : i.size = size) (hby : i.bytes = bytes) (hzs : z.cells.size = size) (hsz : 0 < size)
    (bo : Option Addr) (n : Nat) (xs : List Value) (hxl : xs.length = n * size) (hxs : Rd w bo xs) (hb0 : bo = none → n = 0)
    (ao : Option Addr) (m c : Nat) (news : List Value) (hl : news.length = m * size) (hnews : Rd w ao news) (h1 : ∀ u ∈ news, u.oneCell' = true)
    (hbytes : (n + m) * bytes ≤ 140737488355328) (h63 : n + m ≤ maxLen) :
    ∃ ao' cap' w', (Builtin.append_ #[t, t] ty #[.slice bo n n, .slice ao m c]).run P w = .ok (.slice ao' (n + m) cap') w' ∧ Rd w' ao' (xs ++ news) ∧ Ext nob w w' ∧ n + m ≤ cap' ∧
      (∀ k, inA ao' k → (inA bo k ∧ m = 0) ∨ w.heap.size ≤ k) ∧ (ao' = none → n + m = 0 ∧ cap' = 0) := by
  by_cases hm : m = 0
  · subst hm
    have hn : news = [] := List.eq_nil_of_length_eq_zero (by simpa using hl)
    subst hn
    exact ⟨bo, n, w, run_append_none w t ty e i ht hi bo n n c ao (Nat.le_refl _), by simpa using hxs, Ext.refl _ _, Nat.le_refl _, fun k hk => .inl ⟨hk, rfl⟩, fun h => ⟨hb0 h, hb0 h⟩⟩
  · obtain ⟨ga, oa, rfl⟩ := hnews.addr (by intro e0; subst e0; rcases Nat.mul_eq_zero.1 (by simpa using hl.symm) with h | h <;> omega)
    have hN := hnews.news
    cases bo with
    | none =>
      obtain rfl := hb0 rfl
      have hx : xs = [] := List.eq_nil_of_length_eq_zero (by simpa using hxl)
      subst hx
      obtain ⟨v', w', hr, ho, hg, _⟩ := run_append_own (P := P) w w.heap.size t ty e i z size bytes ht hi hz hsize hby hzs hsz _ 0 [] (World.ownsRow_nil w w.heap.size e size) _ m c news hl hN h1 h63 hbytes (Nat.le_refl _)
      obtain ⟨ao', cap', rfl, h3, h4, h5, h6⟩ := Own.shape (own_base ho)
      exact ⟨ao', cap', w', hr, h3, (Ext.grow hg).mono (fun i _ h => by simp [Value.ownBlock] at h), h5, fun k hk => .inr (ho.lt k (h6 k hk)).1, h4⟩
    | some b =>
      obtain ⟨v', w', hr, ho, hgr⟩ := run_append_arg_grows (P := P) w t ty e i z size bytes ht hi hz hsize hby hzs hsz b n n xs hxl hxs.news ⟨ga, oa, none⟩ m c news hl hN (by omega) h63 hbytes
      obtain ⟨ao', cap', rfl, h3, h4, h5, h6⟩ := Own.shape (own_base ho)
      exact ⟨ao', cap', w', hr, h3, (Ext.grow hgr).mono (fun i _ h => by cases h), h5, fun k hk => .inr (ho.lt k (h6 k hk)).1, h4⟩

end

section
variable {P : Program} {w : World} {ops : Array Oper} {rest : List Oper} {o : Oper} {a : Act} {Q : Exit → Act → World → Prop}

theorem wpList_app (hgd : o.guard = none) (s x : Operand) (t : TypeId)
    (ho : o.op = .call { callee := .builtin .append, args := #[s, x], argTypes := #[t, t] })
    (e : TypeId) (i : TypeInfo) (z : Value) (size bytes : Nat) (ht : P.underlying t = some (.slice e)) (hi : P.info? e = some i) (hz : i.zero = some z)
    (hsize : i.size = size) (hby : i.bytes = bytes) (hzs : z.cells.size = size) (hsz : 0 < size)
    (v : Value) (n : Nat) (xs : List Value) (hs : a.eval s = v) (hown : Own w e size v n xs)
    (ao : Option Addr) (m c : Nat) (news : List Value) (hx : a.eval x = .slice ao m c) (hl : news.length = m * size) (hnews : Rd w ao news) (h1 : ∀ u ∈ news, u.oneCell' = true)
    (hbytes : (n + m) * bytes ≤ 140737488355328) (h63 : n + m ≤ maxLen)
    (h : ∀ v' w', Own w' e size v' (n + m) (xs ++ news) → Ext (fun k => v.ownBlock = some k) w w' → (∀ k, v'.ownBlock = some k → v.ownBlock = some k ∨ w.heap.size ≤ k) → wpList P ops Q rest (a.put o.dst v') w') : wpList P ops Q (o :: rest) a w := by
  refine wpList_plain hgd fun K hK => ?_
  obtain ⟨v', w', hr, h2, h3, h4⟩ := run_app (P := P) w t o.type e i z size bytes ht hi hz hsize hby hzs hsz v n xs hown ao m c news hl hnews h1 hbytes h63
  unfold Oper.wp execOp
  simp only [ho, resolve, invoke, builtin, Sem.run_bind, Sem.run_pure, Result.andThen_ok, List.map_toArray, List.map_cons, List.map_nil, hs, hx, hr]
  exact hK _ _ (h v' w' h2 h3 h4)

/-- The same, inside a region that draws its order. -/
theorem step_app {K : Act → World → Prop} {E : Prop} (hgd : o.guard = none) (s x : Operand) (t : TypeId)
    (ho : o.op = .call { callee := .builtin .append, args := #[s, x], argTypes := #[t, t] })
    (e : TypeId) (i : TypeInfo) (z : Value) (size bytes : Nat) (ht : P.underlying t = some (.slice e)) (hi : P.info? e = some i) (hz : i.zero = some z)
    (hsize : i.size = size) (hby : i.bytes = bytes) (hzs : z.cells.size = size) (hsz : 0 < size)
    (v : Value) (n : Nat) (xs : List Value) (hs : a.eval s = v) (hown : Own w e size v n xs)
    (ao : Option Addr) (m c : Nat) (news : List Value) (hx : a.eval x = .slice ao m c) (hl : news.length = m * size) (hnews : Rd w ao news) (h1 : ∀ u ∈ news, u.oneCell' = true)
    (hbytes : (n + m) * bytes ≤ 140737488355328) (h63 : n + m ≤ maxLen)
    (h : ∀ v' w', Own w' e size v' (n + m) (xs ++ news) → Ext (fun k => v.ownBlock = some k) w w' → (∀ k, v'.ownBlock = some k → v.ownBlock = some k ∨ w.heap.size ≤ k) → K (a.put o.dst v') w') :
    if Region.wanted o (yielded ops a.tmps) = true then Oper.wp P o a w K Q else E := by
  rw [if_pos (by simp [Region.wanted, hgd])]
  obtain ⟨v', w', hr, h2, h3, h4⟩ := run_app (P := P) w t o.type e i z size bytes ht hi hz hsize hby hzs hsz v n xs hown ao m c news hl hnews h1 hbytes h63
  unfold Oper.wp execOp
  simp only [ho, resolve, invoke, builtin, Sem.run_bind, Sem.run_pure, Result.andThen_ok, List.map_toArray, List.map_cons, List.map_nil, hs, hx, hr]
  exact h v' w' h2 h3 h4

theorem step_app_full {K : Act → World → Prop} {E : Prop} (hgd : o.guard = none) (s x : Operand) (t : TypeId)
    (ho : o.op = .call { callee := .builtin .append, args := #[s, x], argTypes := #[t, t] })
    (e : TypeId) (i : TypeInfo) (z : Value) (size bytes : Nat) (ht : P.underlying t = some (.slice e)) (hi : P.info? e = some i) (hz : i.zero = some z)
    (hsize : i.size = size) (hby : i.bytes = bytes) (hzs : z.cells.size = size) (hsz : 0 < size)
    (bo : Option Addr) (n : Nat) (xs : List Value) (hs : a.eval s = .slice bo n n) (hxl : xs.length = n * size) (hxs : Rd w bo xs) (hb0 : bo = none → n = 0)
    (ao : Option Addr) (m c : Nat) (news : List Value) (hx : a.eval x = .slice ao m c) (hl : news.length = m * size) (hnews : Rd w ao news) (h1 : ∀ u ∈ news, u.oneCell' = true)
    (hbytes : (n + m) * bytes ≤ 140737488355328) (h63 : n + m ≤ maxLen)
    (h : ∀ ao' cap' w', Rd w' ao' (xs ++ news) → Ext nob w w' → n + m ≤ cap' → (∀ k, inA ao' k → (inA bo k ∧ m = 0) ∨ w.heap.size ≤ k) → (ao' = none → n + m = 0 ∧ cap' = 0) → K (a.put o.dst (.slice ao' (n + m) cap')) w') :
    if Region.wanted o (yielded ops a.tmps) = true then Oper.wp P o a w K Q else E := by
  rw [if_pos (by simp [Region.wanted, hgd])]
  obtain ⟨ao', cap', w', hr, h2, h3, h4, h5, h6⟩ := run_app_full (P := P) w t o.type e i z size bytes ht hi hz hsize hby hzs hsz bo n xs hxl hxs hb0 ao m c news hl hnews h1 hbytes h63
  unfold Oper.wp execOp
  simp only [ho, resolve, invoke, builtin, Sem.run_bind, Sem.run_pure, Result.andThen_ok, List.map_toArray, List.map_cons, List.map_nil, hs, hx, hr]
  exact h ao' cap' w' h2 h3 h4 h5 h6

theorem wpList_app_full (hgd : o.guard = none) (s x : Operand) (t : TypeId)
    (ho : o.op = .call { callee := .builtin .append, args := #[s, x], argTypes := #[t, t] })
    (e : TypeId) (i : TypeInfo) (z : Value) (size bytes : Nat) (ht : P.underlying t = some (.slice e)) (hi : P.info? e = some i) (hz : i.zero = some z)
    (hsize : i.size = size) (hby : i.bytes = bytes) (hzs : z.cells.size = size) (hsz : 0 < size)
    (bo : Option Addr) (n : Nat) (xs : List Value) (hs : a.eval s = .slice bo n n) (hxl : xs.length = n * size) (hxs : Rd w bo xs) (hb0 : bo = none → n = 0)
    (ao : Option Addr) (m c : Nat) (news : List Value) (hx : a.eval x = .slice ao m c) (hl : news.length = m * size) (hnews : Rd w ao news) (h1 : ∀ u ∈ news, u.oneCell' = true)
    (hbytes : (n + m) * bytes ≤ 140737488355328) (h63 : n + m ≤ maxLen)
    (h : ∀ ao' cap' w', Rd w' ao' (xs ++ news) → Ext nob w w' → n + m ≤ cap' → (∀ k, inA ao' k → (inA bo k ∧ m = 0) ∨ w.heap.size ≤ k) → (ao' = none → n + m = 0 ∧ cap' = 0) → wpList P ops Q rest (a.put o.dst (.slice ao' (n + m) cap')) w') : wpList P ops Q (o :: rest) a w := by
  refine wpList_plain hgd fun K hK => ?_
  obtain ⟨ao', cap', w', hr, h2, h3, h4, h5, h6⟩ := run_app_full (P := P) w t o.type e i z size bytes ht hi hz hsize hby hzs hsz bo n xs hxl hxs hb0 ao m c news hl hnews h1 hbytes h63
  unfold Oper.wp execOp
  simp only [ho, resolve, invoke, builtin, Sem.run_bind, Sem.run_pure, Result.andThen_ok, List.map_toArray, List.map_cons, List.map_nil, hs, hx, hr]
  exact hK _ _ (h ao' cap' w' h2 h3 h4 h5 h6)
end
end Go.Proofs.YtfgfhfmhadondaaDoor
