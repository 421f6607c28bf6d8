/- view: New, none, may, last, copied, Add, Of. -/
import Derived.Test.YtfgfhfmhadondaaDoorSha3
namespace Go.Proofs.YtfgfhfmhadondaaDoor
open Go.RowKit
set_option maxHeartbeats 400000

/-- A row, and as it lies. -/
structure RowS where
  step : Int
  node : Int
  kind : Int
  b : List UInt8
deriving DecidableEq
structure RowV where
  row : RowS
  ao : Option Addr
  n : Nat
  cap : Nat
abbrev rowV (s nd k : Int) (ao : Option Addr) (n c : Nat) : Value := .agg #[.int .i64 s, .int .i64 nd, .int .i64 k, .slice ao n c]
def RowV.cells (r : RowV) : List Value := [.int .i64 r.row.step, .int .i64 r.row.node, .int .i64 r.row.kind, .slice r.ao r.n r.cap]
def mayS (r : RowS) : Bool := ((0 ≤ r.node && r.node < 3) || (10 ≤ r.node && r.node < 14)) && 0 ≤ r.step && r.step ≤ 9007199254740991 && 1 ≤ r.kind && r.kind ≤ 3 && r.b.length ≤ 65536
def lastS (L : List RowS) : Int := (L.getLast?.map (·.step)).getD 0

def ViewAt (w : World) (p : Nat) (L : List RowS) (F : Nat → Prop) : Prop :=
  ∃ (v : Value) (xs : List RowV), w.heap[p]? = some (.cells #[v, .func (.func 107) #[] #[]] 94 (0, 0)) ∧ Own w 34 4 v xs.length (xs.flatMap RowV.cells) ∧ xs.map RowV.row = L ∧
    (∀ r ∈ xs, Bytes w r.ao r.n r.row.b ∧ r.n ≤ r.cap) ∧ F p ∧ (∀ k, v.ownBlock = some k → F k ∧ k ≠ p) ∧ (∀ r ∈ xs, ∀ k, inA r.ao k → F k ∧ k ≠ p ∧ v.ownBlock ≠ some k) ∧ (∀ k, F k → k < w.heap.size)

theorem ViewAt.ext {G : Nat → Prop} {w w' : World} {p : Nat} {L : List RowS} {F : Nat → Prop} (h : ViewAt w p L F) (e : Ext G w w') (hf : ∀ k, F k → ¬ G k) : ViewAt w' p L F := by
  obtain ⟨v, xs, h1, h2, h3, h4, h5, h6, h7, h8⟩ := h
  exact ⟨v, xs, e.blk h1 (hf p h5), h2.ext e (fun k hk => hf k (h6 k hk).1), h3, fun r hr => ⟨(h4 r hr).1.ext e (fun k hk => hf k (h7 r hr k hk).1), (h4 r hr).2⟩, h5, h6, h7, fun k hk => Nat.lt_of_lt_of_le (h8 k hk) e.size⟩

theorem vnew_ok (w : World) : Calls Tryd.prog 49 #[] w fun e w' => e = .returned (.pointer (some ⟨w.heap.size, 0, none⟩)) ∧ ViewAt w' w.heap.size [] (fun k => k = w.heap.size) ∧ Ext nob w w' := by
  go_enter Tryd.func49, Tryd.ntmps49
  go_wp2_with fail
  go_ret
  exact ⟨rfl, ⟨.slice none 0 0, [], blk_new w _, World.ownsRow_nil _ _ _ _, rfl, by simp, rfl, by simp [Value.ownBlock], by simp, by simp⟩, (Ext.refl _ w).alloc _⟩

theorem copied_ok (s nd k : Int) (ao : Option Addr) (n c : Nat) (l : List UInt8) (w : World) (hb : Bytes w ao n l) (hn : n ≤ big) :
    Calls Tryd.prog 107 #[rowV s nd k ao n c] w fun e w' => ∃ ao' c', e = .returned (rowV s nd k ao' n c') ∧ Bytes w' ao' n l ∧ Ext nob w w' ∧ n ≤ c' ∧ (∀ i, inA ao' i → w.heap.size ≤ i ∧ i < w'.heap.size) := by
  have HB := Lib.hid hb
  have HN := Lib.hid hn
  clear hb hn
  go_enter Tryd.func107, Tryd.ntmps107
  go_wp2_with fail
  refine (clone_ok ao n c l _ (HB.out.ext (((Ext.refl nob w).alloc _).alloc _) (fun _ _ h => h)) HN.out).mono ?_
  rintro e w1 ⟨v, rfl, g1, g2, g3⟩
  obtain ⟨av, cv, rfl, q1, q2, q3, q4⟩ := Own.shape g1
  have hp := g2.blk (blk_alloc (blk_new w _) _) (fun h => h)
  have ho := g2.blk (by have := blk_new (w.alloc (.cells #[.int .i64 s, .int .i64 nd, .int .i64 k, .slice ao n c] 34)) (.cells #[.int .i64 0, .int .i64 0, .int .i64 0, .slice none 0 0] 34); rw [World.size_alloc] at this; exact this) (fun h => h)
  obtain ⟨c0, c1, c2, c3, f0, f1, f2, f3, hl⟩ := cells4 hp
  obtain ⟨d0, d1, d2, d3, e0, e1, e2, e3, hl'⟩ := cells4 ho
  have E : Hid (Ext nob w w1) := (((Ext.refl nob w).alloc _).alloc _).trans' g2
  have Q1 := Lib.hid q1
  have Q3 := Lib.hid q3
  have HO := Lib.hid ho
  have Q4 : Hid (∀ i, inA av i → w.heap.size + 1 + 1 ≤ i ∧ i < w1.heap.size) := fun i hi => ⟨by have := g3 i (q4 i hi); simpa using this, g1.lt' i (q4 i hi)⟩
  have hbl := HB.out.1
  have HBL := Lib.hid hbl
  clear g1 g2 g3 q1 q2 q3 q4 hp ho hbl
  go_wp2_with fail
  refine ret_row 2 34 rfl (w.heap.size + 1) rfl 34 #[.int .i64 s, .int .i64 nd, .int .i64 k, .slice av n cv] (0, 0) ?_ _ Tryd.underlying34 rfl (by kernel_rfl) rfl ⟨av, cv, rfl, ⟨HBL.out, Q1.out.ext (F := fun k => k < w.heap.size + 1 + 1) ?_ (fun i hi h => by have := (Q4.out i hi).1; omega)⟩, ?_, Q3.out, fun i hi => ⟨by have := (Q4.out i hi).1; omega, by simpa using (Q4.out i hi).2⟩⟩
  · have := blk_set (blk_set (blk_set (blk_set (blk_far HO.out ⟨w.heap.size, 3, none⟩ (.slice av n cv) (by simp)) 0 (.int .i64 s)) 1 (.int .i64 nd)) 2 (.int .i64 k)) 3 (.slice av n cv)
    simpa using this
  · repeat (with_reducible first | refine Ext.setCell ?_ _ _ (fun _ => by simp only []; omega) | exact Ext.refl _ _)
  · repeat (with_reducible first | refine Ext.setCell ?_ _ _ (fun h => absurd h (by simp only []; omega)) | exact E.out)

theorem ret_bool {x y : Bool} (h : x = true ↔ y = true) : Ending.returned (.bool x) = Ending.returned (.bool y) := by rw [Bool.eq_iff_iff.2 h]

set_option maxRecDepth 20000 in
theorem may_ok (r : RowS) (ao : Option Addr) (n c : Nat) (hn : r.b.length = n) (w : World) :
    Calls Tryd.prog 108 #[rowV r.step r.node r.kind ao n c] w fun e w' => e = .returned (.bool (mayS r)) ∧ Ext nob w w' := by
  obtain ⟨s, nd, k, b⟩ := r
  simp only [] at hn ⊢
  have HN := Lib.hid hn
  clear hn
  go_enter Tryd.func108, Tryd.ntmps108
  go_wp2_with fail
  all_goals go_ret
  all_goals refine ⟨ret_bool ?_, (Ext.refl _ w).alloc _⟩
  all_goals have hn := HN.out
  all_goals clear HN
  all_goals simp [mayS, hn] at *
  all_goals omega

set_option maxRecDepth 20000 in
theorem none_ok (p : Nat) (L : List RowS) (F : Nat → Prop) (w : World) (h : ViewAt w p L F) :
    Calls Tryd.prog 53 #[.pointer (some ⟨p, 0, none⟩)] w fun e w' => e = .returned (.bool false) ∧ w = w' := by
  obtain ⟨v, xs, h1, -⟩ := h
  obtain ⟨c0, c1, f0, f1, hl⟩ := cells2 h1
  clear h1
  have hq : ∀ w, (Go.binOp .eql 47 (.func (.func 107) #[] #[]) .nilFunc).run Tryd.prog w = .ok (.bool false) w := fun w => by kernel_rfl
  go_enter Tryd.func53, Tryd.ntmps53
  go_wp2_with fail
  go_ret
  exact ⟨rfl, rfl⟩

theorem cells_len (xs : List RowV) : (xs.flatMap RowV.cells).length = xs.length * 4 := by
  induction xs with
  | nil => rfl
  | cons r t ih => rw [List.flatMap_cons, List.length_append, ih, List.length_cons]; simp [RowV.cells]; omega
theorem cells_at (xs : List RowV) (i : Nat) (r : RowV) (h : xs[i]? = some r) (j : Nat) (hj : j < 4) : (xs.flatMap RowV.cells)[i * 4 + j]? = r.cells[j]? := by
  induction xs generalizing i with
  | nil => simp at h
  | cons x t ih =>
    cases i with
    | zero =>
      simp at h; subst h
      rw [List.flatMap_cons, List.getElem?_append_left (by simp [RowV.cells]; omega)]
      simp
    | succ i =>
      have := ih i (by simpa using h)
      rw [List.flatMap_cons, List.getElem?_append_right (by simp [RowV.cells]; omega), ← this]
      congr 1; simp [RowV.cells]; omega
/-- The four cells of a row. -/
theorem row_cells {w : World} {g o : Nat} {xs : List RowV} (h : Rd w (some ⟨g, o, none⟩) (xs.flatMap RowV.cells)) (i : Nat) (r : RowV) (hr : xs[i]? = some r) :
    w.cell? ⟨g, o + i * 4, none⟩ = some (.int .i64 r.row.step) ∧ w.cell? ⟨g, o + i * 4 + 1, none⟩ = some (.int .i64 r.row.node) ∧ w.cell? ⟨g, o + i * 4 + 2, none⟩ = some (.int .i64 r.row.kind) ∧ w.cell? ⟨g, o + i * 4 + 3, none⟩ = some (.slice r.ao r.n r.cap) := by
  refine ⟨?_, ?_, ?_, ?_⟩
  · exact h.cell (i * 4) _ ((cells_at xs i r hr 0 (by omega)).trans rfl)
  · exact h.cell (i * 4 + 1) _ ((cells_at xs i r hr 1 (by omega)).trans rfl)
  · exact h.cell (i * 4 + 2) _ ((cells_at xs i r hr 2 (by omega)).trans rfl)
  · exact h.cell (i * 4 + 3) _ ((cells_at xs i r hr 3 (by omega)).trans rfl)

set_option maxRecDepth 20000 in
theorem last_ok (p : Nat) (L : List RowS) (F : Nat → Prop) (w : World) (h : ViewAt w p L F) (hL : L.length ≤ 20000) :
    Calls Tryd.prog 62 #[.pointer (some ⟨p, 0, none⟩)] w fun e w' => e = .returned (.int .i64 (lastS L)) ∧ ∃ m, w' = w.drewN m := by
  obtain ⟨v, xs, h1, h2, rfl, -⟩ := h
  obtain ⟨c0, c1, f0, f1, hl⟩ := cells2 h1
  obtain ⟨ao, cap, rfl, q1, q2, q3, q4⟩ := Own.shape h2
  clear h1 f0 f1
  rcases List.eq_nil_or_concat xs with rfl | ⟨ys, r, rfl⟩
  · simp only [List.length_nil] at c0
    clear q1 q2 q3 q4 h2
    go_enter Tryd.func62, Tryd.ntmps62
    go_wp2_with fail
    go_ret
    exact ⟨rfl, 0, rfl⟩
  · have hlen : (ys ++ [r]).length = ys.length + 1 := by simp
    simp only [List.concat_eq_append] at *
    rw [hlen] at c0
    have hls : lastS (List.map RowV.row (ys ++ [r])) = r.row.step := by simp [lastS]
    rw [hls]
    obtain ⟨g, o, rfl⟩ := q1.addr (by intro e; have := cells_len (ys ++ [r]); rw [e, hlen] at this; simp at this)
    obtain ⟨d0, -⟩ := row_cells q1 ys.length r (by simp)
    have hy : ys.length < 20000 := by simp at hL; omega
    have e1 : IntKind.i64.wrap ((ys.length : Int) + 1 - 1) = (ys.length : Int) := by rw [IntWalk.i64_in _ (by omega)]; omega
    have e2 : IntKind.i64.wrap (ys.length : Int) = (ys.length : Int) := IntWalk.i64_in _ (by omega)
    clear q1 q2 q3 q4 h2 hls
    go_enter Tryd.func62, Tryd.ntmps62
    go_wp2_with fail
    go_quiet (fail)
    go_wp2_with fail
    go_ret
    exact ⟨rfl, _, rfl⟩

theorem info_row : (Tryd.prog.info? 34).map (fun i => (i.zero, i.size, i.bytes)) = some (some (.agg #[.int .i64 0, .int .i64 0, .int .i64 0, .slice none 0 0]), 4, 48) := by kernel_rfl
theorem oneCell_rows (xs : List RowV) : ∀ u ∈ xs.flatMap RowV.cells, u.oneCell' = true := by
  intro u hu
  obtain ⟨r, -, hr⟩ := List.mem_flatMap.1 hu
  simp [RowV.cells] at hr
  rcases hr with rfl | rfl | rfl | rfl <;> rfl

theorem step_rows {w : World} {ops : Array Oper} {o : Oper} {a : Act} {Q : Exit → Act → World → Prop} {K : Act → World → Prop} {E : Prop} (hgd : o.guard = none) (s x : Operand)
    (ho : o.op = .call { callee := .builtin .append, args := #[s, x], argTypes := #[28, 28] })
    (v : Value) (xs : List RowV) (hs : a.eval s = v) (hown : Own w 34 4 v xs.length (xs.flatMap RowV.cells))
    (ao : Option Addr) (m c : Nat) (ys : List RowV) (hm : ys.length = m) (hx : a.eval x = .slice ao m c) (hb : Rd w ao (ys.flatMap RowV.cells)) (hbytes : xs.length + m ≤ 1000000)
    (h : ∀ v' w', Own w' 34 4 v' (xs.length + m) ((xs ++ ys).flatMap RowV.cells) → Ext (fun k => v.ownBlock = some k) w w' → (∀ k, v'.ownBlock = some k → v.ownBlock = some k ∨ w.heap.size ≤ k) → K (a.put o.dst v') w') :
    if Region.wanted o (yielded ops a.tmps) = true then Oper.wp Tryd.prog o a w K Q else E := by
  obtain ⟨i, hi, hz, hsz, hby⟩ := info_parts info_row
  subst hm
  refine step_app hgd s x 28 ho 34 i (.agg #[.int .i64 0, .int .i64 0, .int .i64 0, .slice none 0 0]) 4 48 Tryd.underlying28 hi hz hsz hby rfl (by decide) v xs.length _ hs hown ao ys.length c _ hx (cells_len ys) hb (oneCell_rows ys) (by omega) (by unfold maxLen; omega) ?_
  intro v' w' h1 h2 h3
  rw [← List.flatMap_append] at h1
  exact h v' w' h1 h2 h3

theorem rd_row (w : World) (r : RowS) (ao : Option Addr) (n c : Nat) : Rd (w.alloc (.cells #[.int .i64 r.step, .int .i64 r.node, .int .i64 r.kind, .slice ao n c] 34)) (some ⟨w.heap.size, 0, none⟩) ([(⟨r, ao, n, c⟩ : RowV)].flatMap RowV.cells) :=
  Rd.of_heap (blk_new w _) 0 (fun j u hj => by simpa [RowV.cells] using hj)

def addE (L : List RowS) (r : RowS) : Nat := if mayS r = false ∨ r.step < lastS L then 2 else if L.length = 20000 then 5 else 0
def addL (L : List RowS) (r : RowS) : List RowS := if addE L r = 0 then L ++ [r] else L

theorem vadd_fin {w w2 w3 w4 : World} {p : Nat} {L : List RowS} {F : Nat → Prop} {r : RowS} {xs : List RowV} {bo bo' ao' : Option Addr} {cap cap' n c' : Nat} {X : Obj}
    (h3 : xs.map RowV.row = L)
    (h4 : ∀ r ∈ xs, Bytes w r.ao r.n r.row.b ∧ r.n ≤ r.cap) (h5 : F p) (h6 : ∀ k, (Value.slice bo xs.length cap).ownBlock = some k → F k ∧ k ≠ p) (h7 : ∀ r ∈ xs, ∀ k, inA r.ao k → F k ∧ k ≠ p ∧ (Value.slice bo xs.length cap).ownBlock ≠ some k) (h8 : ∀ k, F k → k < w.heap.size)
    (e2 : Ext nob w w2) (e3 : Ext nob w2 w3) (g1 : Bytes w3 ao' n r.b) (g3 : n ≤ c') (g4 : ∀ i, inA ao' i → w2.drew.heap.size ≤ i ∧ i < w3.heap.size)
    (k1 : Own w4 34 4 (.slice bo' (xs.length + 1) cap') (xs.length + 1) ((xs ++ [(⟨r, ao', n, c'⟩ : RowV)]).flatMap RowV.cells)) (k2 : Ext (fun k => (Value.slice bo xs.length cap).ownBlock = some k) (w3.alloc X) w4)
    (k3 : ∀ k, (Value.slice bo' (xs.length + 1) cap').ownBlock = some k → (Value.slice bo xs.length cap).ownBlock = some k ∨ (w3.alloc X).heap.size ≤ k)
    (hp4 : w4.heap[p]? = some (.cells #[.slice bo xs.length cap, .func (.func 107) #[] #[]] 94 (0, 0))) :
    (∃ F', ViewAt (w4.setCell ⟨p, 0, none⟩ (.slice bo' (xs.length + 1) cap')) p (L ++ [r]) F' ∧ (∀ k, F' k → F k ∨ w.heap.size ≤ k)) ∧ Ext F w (w4.setCell ⟨p, 0, none⟩ (.slice bo' (xs.length + 1) cap')) := by
  have hpl := h8 p h5
  have s2 := e2.size
  have s3 := e3.size
  have s4 := k2.size
  simp only [World.size_alloc] at s4 k3
  have hd : w2.drew.heap.size = w2.heap.size := rfl
  rw [hd] at g4
  have E : Ext (fun k => k = p) w4 (w4.setCell ⟨p, 0, none⟩ (.slice bo' (xs.length + 1) cap')) := (Ext.refl _ w4).setCell _ _ (fun _ => rfl)
  have hvp : ∀ k, (Value.slice bo' (xs.length + 1) cap').ownBlock = some k → k ≠ p := fun k hk e => by
    rcases k3 k hk with h | h
    · exact (h6 k h).2 e
    · omega
  refine ⟨⟨fun k => F k ∨ (Value.slice bo' (xs.length + 1) cap').ownBlock = some k ∨ inA ao' k, ⟨.slice bo' (xs.length + 1) cap', xs ++ [⟨r, ao', n, c'⟩], ?_, (by have := k1.ext E hvp; simpa using this), by simp [h3], ?_, .inl h5, fun k hk => ⟨.inr (.inl hk), hvp k hk⟩, ?_, ?_⟩, ?_⟩, ?_⟩
  · have := blk_set hp4 0 (.slice bo' (xs.length + 1) cap')
    simpa using this
  · intro x hx
    rcases List.mem_append.1 hx with hx | hx
    · exact ⟨((((h4 x hx).1.ext (e2.trans' e3) (fun _ _ h => h)).ext ((Ext.refl nob w3).alloc X) (fun _ _ h => h)).ext k2 (fun k hk => (h7 x hx k hk).2.2)).ext E (fun k hk => (h7 x hx k hk).2.1), (h4 x hx).2⟩
    · simp at hx; subst hx
      refine ⟨((g1.ext ((Ext.refl nob w3).alloc X) (fun _ _ h => h)).ext k2 (fun k hk h => ?_)).ext E (fun k hk e => ?_), g3⟩
      · have := h8 k (h6 k h).1
        have := (g4 k hk).1
        omega
      · have := (g4 k hk).1
        omega
  · intro x hx k hk
    rcases List.mem_append.1 hx with hx | hx
    · refine ⟨.inl (h7 x hx k hk).1, (h7 x hx k hk).2.1, fun h => ?_⟩
      rcases k3 k h with h | h
      · exact (h7 x hx k hk).2.2 h
      · have := h8 k (h7 x hx k hk).1
        omega
    · simp at hx; subst hx
      refine ⟨.inr (.inr hk), fun e => by have := (g4 k hk).1; omega, fun h => ?_⟩
      rcases k3 k h with h | h
      · have := h8 k (h6 k h).1
        have := (g4 k hk).1
        omega
      · have := (g4 k hk).2
        omega
  · intro k hk
    rw [World.size_setCell]
    rcases hk with hk | hk | hk
    · have := h8 k hk; omega
    · exact k1.lt' k hk
    · have := (g4 k hk).2; omega
  · intro k hk
    rcases hk with hk | hk | hk
    · exact .inl hk
    · rcases k3 k hk with h | h
      · exact .inl (h6 k h).1
      · right; omega
    · have := (g4 k hk).1
      right; omega
  · refine Ext.setCell ?_ _ _ (fun _ => h5)
    exact (((e2.trans' e3).alloc X).nob (F := F)).trans k2 (fun i hi h => (h6 i h).1)

set_option maxRecDepth 20000 in
set_option maxHeartbeats 1000000 in
theorem vadd_ok (p : Nat) (L : List RowS) (F : Nat → Prop) (r : RowS) (ao : Option Addr) (n c : Nat) (w : World) (hv : ViewAt w p L F) (hb : Bytes w ao n r.b) (hn : n ≤ big) (hL : L.length ≤ 20000) :
    Calls Tryd.prog 50 #[.pointer (some ⟨p, 0, none⟩), rowV r.step r.node r.kind ao n c] w fun e w' => e = .returned (.int .i64 (addE L r : Int)) ∧ (∃ F', ViewAt w' p (addL L r) F' ∧ (∀ k, F' k → F k ∨ w.heap.size ≤ k)) ∧ Ext F w w' := by
  have hbl := hb.1
  have hlt : p < w.heap.size := by obtain ⟨v, xs, h1, -⟩ := hv; exact blk_lt h1
  have HN := Lib.hid hn
  have HB := Lib.hid hb
  have HBL := Lib.hid hbl
  have HV := Lib.hid hv
  have HL := Lib.hid hL
  clear hn hb hbl hv hL
  go_enter Tryd.func50, Tryd.ntmps50
  go_wp2_with fail
  refine (none_ok p L F _ (HV.out.ext ((Ext.refl nob w).alloc _) (fun _ _ h => h))).mono ?_
  rintro e w1 ⟨rfl, rfl⟩
  go_wp2_with fail
  refine (may_ok r ao n c HBL.out _).mono ?_
  rintro e w1 ⟨rfl, e1⟩
  have hbx := e1.blk (blk_new w _) (fun h => h)
  obtain ⟨b0, b1, b2, b3, -, -, -, -, hbl⟩ := cells4 hbx
  have HX := Lib.hid hbx
  have HE1 : Hid (Ext nob w w1) := ((Ext.refl nob w).alloc _).trans' e1
  clear hbx e1
  have hquiet : Hid (∀ n, Calls Tryd.prog 62 #[.pointer (some ⟨p, 0, none⟩)] (w1.drewN n) fun e w'' => e = .returned (.int .i64 (lastS L)) ∧ ∃ m, w'' = w1.drewN m) := fun n => Calls.quiet_of (last_ok p L F _ ((HV.out.ext HE1.out (fun _ _ h => h)).ext ((Ext.refl nob w1).drewN n) (fun _ _ h => h)) HL.out)
  by_cases hm : mayS r = true
  · by_cases hs : r.step < lastS L
    · have hE : addE L r = 2 := by simp [addE, hs]
      have hA : addL L r = L := by simp [addL, hE]
      have HEA := Lib.hid (And.intro hE hA)
      clear hE hA
      go_wp2_with fail
      go_quiet (exact hquiet.out _)
      go_wp2_with fail
      go_ret
      rw [HEA.out.1, HEA.out.2]
      exact ⟨rfl, ⟨F, (HV.out.ext HE1.out (fun _ _ h => h)).ext ((Ext.refl nob w1).drewN _) (fun _ _ h => h), fun k hk => .inl hk⟩, (HE1.out.drewN _).nob⟩
    · by_cases h20 : L.length = 20000
      · have hE : addE L r = 5 := by simp [addE, hs, hm, h20]
        have hA : addL L r = L := by simp [addL, hE]
        have HEA := Lib.hid (And.intro hE hA)
        obtain ⟨v, xs, h1, h2, h3, -⟩ := HV.out.ext HE1.out (fun _ _ h => h)
        obtain ⟨bo, cap, rfl, -⟩ := Own.shape h2
        have hx : xs.length = 20000 := by rw [← h20, ← h3, List.length_map]
        rw [hx] at h1
        obtain ⟨c0, c1, f0, f1, hl⟩ := cells2 h1
        clear hE hA h1 h2 h3 h20
        go_wp2_with fail
        go_quiet (exact hquiet.out _)
        go_wp2_with fail
        go_ret
        rw [HEA.out.1, HEA.out.2]
        exact ⟨rfl, ⟨F, (HV.out.ext HE1.out (fun _ _ h => h)).ext ((Ext.refl nob w1).drewN _) (fun _ _ h => h), fun k hk => .inl hk⟩, (HE1.out.drewN _).nob⟩
      · have hE : addE L r = 0 := by simp [addE, hs, hm, h20]
        have hA : addL L r = L ++ [r] := by simp [addL, hE]
        have HEA := Lib.hid (And.intro hE hA)
        obtain ⟨v, xs, h1, h2, h3, h4, h5, h6, h7, h8⟩ := HV.out
        have hx : xs.length = L.length := by rw [← h3, List.length_map]
        have hx1 : xs.length < 20000 := by have := HL.out; omega
        have hx2 : ((xs.length : Int) == 20000) = false := by simp; omega
        obtain ⟨bo, cap, rfl, q1, q2, q3, q4⟩ := Own.shape h2
        have hp1 := HE1.out.blk h1 (fun h => h)
        obtain ⟨c0, c1, f0, f1, hl⟩ := cells2 hp1
        have HP := Lib.hid h1
        have HP1 := Lib.hid hp1
        have H2 := Lib.hid h2
        have H3 := Lib.hid h3
        have H4 := Lib.hid h4
        have H6 := Lib.hid h6
        have H7 := Lib.hid h7
        have H8 := Lib.hid h8
        have HX := Lib.hid hx
        have HX1 := Lib.hid hx1
        have HLT := Lib.hid hlt
        clear hE hA h1 h2 h3 h4 h6 h7 h8 q1 q2 q3 q4 h20 hx hp1 hx1
        go_wp2_with fail
        go_quiet (exact hquiet.out _)
        obtain ⟨w2, hw2⟩ : ∃ w2, w2 = w1.drewN nq := ⟨_, rfl⟩
        have HE2 : Hid (Ext nob w w2) := by rw [hw2]; exact HE1.out.drewN _
        have HE12 : Hid (Ext nob w1 w2) := by rw [hw2]; exact (Ext.refl nob w1).drewN _
        rw [← hw2]
        replace c0 := HE12.out.cell c0 (fun h => h)
        replace c1 := HE12.out.cell c1 (fun h => h)
        replace b0 := HE12.out.cell b0 (fun h => h)
        replace b1 := HE12.out.cell b1 (fun h => h)
        replace b2 := HE12.out.cell b2 (fun h => h)
        replace b3 := HE12.out.cell b3 (fun h => h)
        replace hl := Nat.lt_of_lt_of_le hl HE12.out.size
        clear hw2 f0 f1
        go_wp2_with fail
        have hne : Hid (∀ k, (Value.slice bo xs.length cap).ownBlock = some k → k ≠ p) := fun k hk => (H6.out k hk).2
        have HP2 := Lib.hid (HE12.out.blk HP1.out (fun h => h))
        go_region_law (first | (refine step_rows rfl (.tmp 30) (.tmp 38) rfl (.slice bo xs.length cap) xs rfl ((H2.out.ext HE2.out (fun _ _ h => h)).ext (HE3.out.alloc _) (fun _ _ h => h)) (some ⟨w3.heap.size, 0, none⟩) 1 1 [⟨r, ao', n, c'⟩] rfl rfl (rd_row w3 r ao' n c') (Nat.le_trans (Nat.succ_le_of_lt HX1.out) (by decide)) ?_; intro v' w4 h1 h2 h3; obtain ⟨bo', cap', rfl, -⟩ := Own.shape h1; have HP4 := Lib.hid (h2.blk (blk_alloc (HE3.out.blk HP2.out (fun h => h)) _) (fun h => hne.out p h rfl)); obtain ⟨z0, z1, zf0, zf1, zl⟩ := cells2 HP4.out; have K1 := Lib.hid h1; have K2 := Lib.hid h2; have K3 := Lib.hid h3; clear h1 h2 h3) | (go_simp; go_at_call 107; refine (copied_ok r.step r.node r.kind ao n c r.b w2.drew ((HB.out.ext HE2.out (fun _ _ h => h)).ext ((Ext.refl nob w2).drew) (fun _ _ h => h)) HN.out).mono ?_; rintro e w3 ⟨ao', c', rfl, g1, g2, g3, g4⟩; have HE3 : Hid (Ext nob w2 w3) := Ext.undrew g2; have G1 := Lib.hid g1; have G3 := Lib.hid g3; have G4 := Lib.hid g4; have c0' := g2.cell c0 (fun h => h); have c1' := g2.cell c1 (fun h => h); have b0' := g2.cell b0 (fun h => h); have b1' := g2.cell b1 (fun h => h); have b2' := g2.cell b2 (fun h => h); have b3' := g2.cell b3 (fun h => h); have hl3 := Nat.lt_of_lt_of_le hl (HE3.out.size); clear g1 g2 g3 g4))
        all_goals go_wp2_with fail
        all_goals go_ret
        all_goals rw [HEA.out.1, HEA.out.2]
        all_goals exact ⟨rfl, vadd_fin H3.out H4.out h5 H6.out H7.out H8.out HE2.out HE3.out G1.out G3.out G4.out K1.out K2.out K3.out HP4.out⟩
  · have hE : addE L r = 2 := by simp [addE, hm]
    have hA : addL L r = L := by simp [addL, hE]
    have HEA := Lib.hid (And.intro hE hA)
    clear hE hA
    go_wp2_with fail
    go_ret
    rw [HEA.out.1, HEA.out.2]
    exact ⟨rfl, ⟨F, HV.out.ext HE1.out (fun _ _ h => h), fun k hk => .inl hk⟩, HE1.out.nob⟩
end Go.Proofs.YtfgfhfmhadondaaDoor
