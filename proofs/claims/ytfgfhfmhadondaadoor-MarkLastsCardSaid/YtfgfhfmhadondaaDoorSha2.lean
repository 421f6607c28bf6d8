/- sha: Hash, and Sum. -/
import Derived.Test.YtfgfhfmhadondaaDoorSha
namespace Go.Proofs.YtfgfhfmhadondaaDoor
open Go.RowKit
set_option maxHeartbeats 400000

def fold (s : S8) : Nat → List UInt8 → S8
  | 0, _ => s
  | n + 1, l => fold (blockI l s) n (l.drop 64)

theorem wordAt_append (l r : List UInt8) (k : Nat) (h : 4 * k + 3 < l.length) : wordAt (l ++ r) k = wordAt l k := by
  have e : ∀ j, j < l.length → (l ++ r).getD j 0 = l.getD j 0 := fun j hj => by simp [List.getD, List.getElem?_append, hj]
  simp only [wordAt, e (4 * k) (by omega), e (4 * k + 1) (by omega), e (4 * k + 2) (by omega), e (4 * k + 3) h]
theorem sched_append (l r : List UInt8) (h : 64 ≤ l.length) : ∀ k, sched (l ++ r) k = sched l k
  | 0 => rfl
  | k + 1 => by
    simp only [sched, sched_append l r h k]
    by_cases h16 : k < 16
    · rw [if_pos h16, if_pos h16, wordAt_append l r k (by omega)]
    · rw [if_neg h16, if_neg h16]
theorem rounds_append (l r : List UInt8) (h : 64 ≤ l.length) (s : S8) : ∀ k, rounds (l ++ r) s k = rounds l s k
  | 0 => rfl
  | k + 1 => by simp only [rounds, rounds_append l r h s k, sched_append l r h]
theorem blockI_append (l r : List UInt8) (h : 64 ≤ l.length) (s : S8) : blockI (l ++ r) s = blockI l s := by
  simp only [blockI, rounds_append l r h]
theorem fold_append : ∀ (q : Nat) (s : S8) (X Y : List UInt8) (m : Nat), X.length = 64 * q → fold s (q + m) (X ++ Y) = fold (fold s q X) m Y
  | 0, s, X, Y, m, h => by
    have : X = [] := List.eq_nil_of_length_eq_zero (by omega)
    subst this
    simp [fold]
  | q + 1, s, X, Y, m, h => by
    rw [show q + 1 + m = (q + m) + 1 from by omega]
    simp only [fold]
    rw [blockI_append X Y (by omega), List.drop_append_of_le_length (by omega)]
    exact fold_append q _ _ _ m (by simp; omega)

/-- A Hash at block p that has been written L. -/
def HashAt (w : World) (p : Nat) (L : List UInt8) (F : Nat → Prop) : Prop :=
  ∃ (s : S8) (ao : Option Addr) (n c : Nat), w.heap[p]? = some (.cells #[.int .u32 s.a, .int .u32 s.b, .int .u32 s.c, .int .u32 s.d, .int .u32 s.e, .int .u32 s.f, .int .u32 s.g, .int .u32 s.h, .slice ao n c, .int .i64 (L.length : Int)] 158 (0, 0)) ∧ n ≤ c ∧
    (64 ≤ L.length → s = fold firstS (L.length / 64) L) ∧ Bytes w ao n (L.drop (64 * (L.length / 64))) ∧ F p ∧ (∀ k, inA ao k → F k ∧ k ≠ p) ∧ (∀ k, F k → k < w.heap.size) ∧ (ao = none → n = 0)

theorem cells10 {w : World} {p : Nat} {a0 a1 a2 a3 a4 a5 a6 a7 a8 a9 : Value} {T : TypeId} (h : w.heap[p]? = some (.cells #[a0, a1, a2, a3, a4, a5, a6, a7, a8, a9] T (0, 0))) :
    w.cell? ⟨p, 0, none⟩ = some a0 ∧ w.cell? ⟨p, 1, none⟩ = some a1 ∧ w.cell? ⟨p, 2, none⟩ = some a2 ∧ w.cell? ⟨p, 3, none⟩ = some a3 ∧ w.cell? ⟨p, 4, none⟩ = some a4 ∧ w.cell? ⟨p, 5, none⟩ = some a5 ∧ w.cell? ⟨p, 6, none⟩ = some a6 ∧ w.cell? ⟨p, 7, none⟩ = some a7 ∧ w.cell? ⟨p, 8, none⟩ = some a8 ∧ w.cell? ⟨p, 9, none⟩ = some a9 ∧ (∀ i, w.frozen? ⟨p, i, none⟩ = false) ∧ p < w.heap.size := by
  refine ⟨?_, ?_, ?_, ?_, ?_, ?_, ?_, ?_, ?_, ?_, fun i => ?_, blk_lt h⟩ <;> simp [World.cell?, World.frozen?, h]

theorem set10 {w : World} {p : Nat} {a0 a1 a2 a3 a4 a5 a6 a7 a8 a9 : Value} {T : TypeId} (h : w.heap[p]? = some (.cells #[a0, a1, a2, a3, a4, a5, a6, a7, a8, a9] T (0, 0))) (b0 b1 b2 b3 b4 b5 b6 b7 b8 b9 : Value) :
    ((((((((((w.setCell ⟨p, 0, none⟩ b0).setCell ⟨p, 1, none⟩ b1).setCell ⟨p, 2, none⟩ b2).setCell ⟨p, 3, none⟩ b3).setCell ⟨p, 4, none⟩ b4).setCell ⟨p, 5, none⟩ b5).setCell ⟨p, 6, none⟩ b6).setCell ⟨p, 7, none⟩ b7).setCell ⟨p, 8, none⟩ b8).setCell ⟨p, 9, none⟩ b9).heap[p]? = some (.cells #[b0, b1, b2, b3, b4, b5, b6, b7, b8, b9] T (0, 0)) := by
  have := blk_set (blk_set (blk_set (blk_set (blk_set (blk_set (blk_set (blk_set (blk_set (blk_set h 0 b0) 1 b1) 2 b2) 3 b3) 4 b4) 5 b5) 6 b6) 7 b7) 8 b8) 9 b9
  simpa using this

theorem set8' {w : World} {k : Nat} {T : TypeId} {o0 o1 o2 o3 o4 o5 o6 o7 : Value} (h : w.heap[k]? = some (.cells #[o0, o1, o2, o3, o4, o5, o6, o7] T (0, 0))) (y0 y1 y2 y3 y4 y5 y6 y7 : Value) :
    ((((((((w.setCell ⟨k, 0, none⟩ y0).setCell ⟨k, 1, none⟩ y1).setCell ⟨k, 2, none⟩ y2).setCell ⟨k, 3, none⟩ y3).setCell ⟨k, 4, none⟩ y4).setCell ⟨k, 5, none⟩ y5).setCell ⟨k, 6, none⟩ y6).setCell ⟨k, 7, none⟩ y7).heap[k]? = some (.cells #[y0, y1, y2, y3, y4, y5, y6, y7] T (0, 0)) := by
  have h8 := blk_set (blk_set (blk_set (blk_set (blk_set (blk_set (blk_set (blk_set h 0 y0) 1 y1) 2 y2) 3 y3) 4 y4) 5 y5) 6 y6) 7 y7
  simp only [List.setIfInBounds_toArray, List.set_cons_zero, List.set_cons_succ] at h8
  exact h8

theorem HashAt.ext {G : Nat → Prop} {w w' : World} {p : Nat} {L : List UInt8} {F : Nat → Prop} (h : HashAt w p L F) (e : Ext G w w') (hf : ∀ k, F k → ¬ G k) : HashAt w' p L F := by
  obtain ⟨s, ao, n, c, h1, h2, h3, h4, h5, h6, h7, h8⟩ := h
  exact ⟨s, ao, n, c, e.blk h1 (hf p h5), h2, h3, h4.ext e (fun k hk => hf k (h6 k hk).1), h5, h6, fun k hk => Nat.lt_of_lt_of_le (h7 k hk) e.size, h8⟩

theorem hnew_ok (w : World) : Calls Tryd.prog 83 #[] w fun e w' => e = .returned (.pointer (some ⟨w.heap.size, 0, none⟩)) ∧ HashAt w' w.heap.size [] (fun k => k = w.heap.size) ∧ Ext nob w w' := by
  go_enter Tryd.func83, Tryd.ntmps83
  go_wp2_with fail
  go_ret
  refine ⟨rfl, ⟨⟨0, 0, 0, 0, 0, 0, 0, 0⟩, none, 0, 0, blk_new w _, Nat.le_refl _, by simp, Bytes.nil _ _, rfl, ?_, by simp, by simp⟩, (Ext.refl _ w).alloc _⟩
  rintro k ⟨a, ha, _⟩; cases ha

set_option maxRecDepth 20000 in
theorem words_ok (p : Nat) (L : List UInt8) (F : Nat → Prop) (w : World) (hh : HashAt w p L F) (hG : Laid w) :
    Calls Tryd.prog 124 #[.pointer (some ⟨p, 0, none⟩)] w fun e w' => e = .returned (.agg (fold firstS (L.length / 64) L).arr) ∧ Ext nob w w' := by
  obtain ⟨s, ao, n, c, h1, -, h2, -⟩ := hh
  obtain ⟨c0, c1, c2, c3, c4, c5, c6, c7, c8, c9, -, hlt⟩ := cells10 h1
  obtain ⟨-, t0, fr0, hg⟩ := hG
  have H1 := Lib.hid h1
  have H2 := Lib.hid h2
  have hg' := blk_alloc hg (.cells #[.int .u32 0, .int .u32 0, .int .u32 0, .int .u32 0, .int .u32 0, .int .u32 0, .int .u32 0, .int .u32 0] 156)
  simp only [S8.arr, firstS] at hg'
  have HG := Lib.hid hg'
  clear h1 h2 hg hg'
  by_cases h64 : L.length < 64
  · have hd : L.length / 64 = 0 := by omega
    have HD := Lib.hid hd
    clear hd
    go_enter Tryd.func124, Tryd.ntmps124
    go_wp2_with (refine wpList_load_row rfl 156 _ rfl 0 rfl t0 #[.int .u32 1779033703, .int .u32 3144134277, .int .u32 1013904242, .int .u32 2773480762, .int .u32 1359893119, .int .u32 2600822924, .int .u32 528734635, .int .u32 1541459225] fr0 _ HG.out Tryd.underlying156 rfl (by kernel_rfl) ?_)
    refine ret_row 2 156 rfl w.heap.size rfl 156 (fold firstS (L.length / 64) L).arr (0, 0) ?_ _ Tryd.underlying156 rfl (by kernel_rfl) rfl ⟨rfl, (Ext.refl _ w).alloc _⟩
    rw [HD.out]
    exact blk_new w _
  · have hs := H2.out (by omega)
    have HS := Lib.hid hs
    clear hs
    go_enter Tryd.func124, Tryd.ntmps124
    go_wp2_with fail
    refine ret_row 2 156 rfl w.heap.size rfl 156 (fold firstS (L.length / 64) L).arr (0, 0) ?_ _ Tryd.underlying156 rfl (by kernel_rfl) rfl ⟨rfl, (Ext.refl _ w).alloc _⟩
    rw [← HS.out]
    exact blk_new w _

set_option maxRecDepth 20000 in
theorem hcopy_ok (p : Nat) (L : List UInt8) (F : Nat → Prop) (w : World) (hh : HashAt w p L F) (hL : L.length ≤ big) :
    Calls Tryd.prog 126 #[.pointer (some ⟨p, 0, none⟩)] w fun e w' => ∃ q F', e = .returned (.pointer (some ⟨q, 0, none⟩)) ∧ HashAt w' q L F' ∧ Ext nob w w' ∧ (∀ k, F' k → w.heap.size ≤ k) := by
  obtain ⟨s, ao, n, c, h1, -, h2, h3, -⟩ := hh
  obtain ⟨c0, c1, c2, c3, c4, c5, c6, c7, c8, c9, -, hlt⟩ := cells10 h1
  have H1 := Lib.hid h1
  have H2 := Lib.hid h2
  have H3 := Lib.hid h3
  clear h1 h2 h3
  go_enter Tryd.func126, Tryd.ntmps126
  go_wp2_with fail
  refine (clone_ok ao n c _ _ (H3.out.ext ((Ext.refl nob w).alloc _) (fun _ _ h => h)) (by have := H3.out.1; simp at this; omega)).mono ?_
  rintro e w1 ⟨v, rfl, g1, g2, g3⟩
  obtain ⟨ao', cap', rfl, q1, q2, q3, q4⟩ := Own.shape g1
  have E1 : Ext nob w w1 := ((Ext.refl nob w).alloc _).trans' g2
  have hb := g2.blk (blk_new w _) (fun h => h)
  have hlt1 := blk_lt hb
  obtain ⟨d0, d1, d2, d3, d4, d5, d6, d7, d8, d9, df, -⟩ := cells10 hb
  have HB := Lib.hid hb
  have G1 := Lib.hid g1
  have G3 : Hid (∀ k, inA ao' k → w.heap.size + 1 ≤ k ∧ k < w1.heap.size) := fun k hk => ⟨by have := g3 k (q4 k hk); simpa using this, g1.lt' k (q4 k hk)⟩
  have Q1 := Lib.hid q1
  have Q2 := Lib.hid q2
  have HE := Lib.hid E1
  clear g1 g2 g3 q1 q2 q4 hb E1
  go_wp2_with fail
  go_ret
  refine ⟨w.heap.size, fun k => k = w.heap.size ∨ inA ao' k, rfl, ⟨s, ao', n, cap', (blk_set HB.out 8 _).trans ?_, q3, H2.out, ⟨H3.out.1, Q1.out.ext ((Ext.refl (fun k => k = w.heap.size) w1).setCell ⟨w.heap.size, 8, none⟩ _ (fun _ => rfl)) (fun k hk e => by have := G3.out k hk; omega)⟩, .inl rfl, fun k hk => ⟨.inr hk, ?_⟩, fun k hk => ?_, fun h => (Q2.out h).1⟩, HE.out.setCell _ _ (fun h => by simp at h), fun k hk => ?_⟩
  · simp
  · have := G3.out k hk; omega
  · simp only [World.size_setCell]
    rcases hk with h | h
    · omega
    · exact (G3.out k h).2
  · rcases hk with h | h
    · omega
    · have := G3.out k h; omega

theorem fold_snoc : ∀ (q : Nat) (s : S8) (l : List UInt8), fold s (q + 1) l = blockI (l.drop (64 * q)) (fold s q l)
  | 0, s, l => by simp [fold]
  | q + 1, s, l => by
    rw [fold, fold_snoc q, fold, List.drop_drop]
    congr 2; omega

theorem app_full_bytes {w : World} {ops : Array Oper} {rest : List Oper} {o : Oper} {a : Act} {Q : Exit → Act → World → Prop} (hgd : o.guard = none) (s x : Operand)
    (ho : o.op = .call { callee := .builtin .append, args := #[s, x], argTypes := #[23, 23] })
    (bo : Option Addr) (k : Nat) (xs : List UInt8) (hs : a.eval s = .slice bo k k) (hxs : Bytes w bo k xs) (hb0 : bo = none → k = 0)
    (ao : Option Addr) (m c : Nat) (l : List UInt8) (hx : a.eval x = .slice ao m c) (hb : Bytes w ao m l) (hbytes : k + m ≤ 140737488355328)
    (h : ∀ ao' cap' w', Bytes w' ao' (k + m) (xs ++ l) → Ext nob w w' → k + m ≤ cap' → (∀ i, inA ao' i → (inA bo i ∧ m = 0) ∨ w.heap.size ≤ i) → (ao' = none → k + m = 0 ∧ cap' = 0) → wpList Tryd.prog ops Q rest (a.put o.dst (.slice ao' (k + m) cap')) w') :
    wpList Tryd.prog ops Q (o :: rest) a w := by
  obtain ⟨i, hi, hz, hsz, hby⟩ := info_parts info_byte
  refine wpList_app_full hgd s x 23 ho 5 i (.int .u8 0) 1 1 Tryd.underlying23 hi hz hsz hby rfl (by decide) bo k (xs.map byt) hs (by simp [hxs.1]) hxs.2 hb0 ao m c (l.map byt) hx (by simp [hb.1]) hb.2 (oneCell_byt l) (by omega) (by unfold maxLen; omega) ?_
  intro ao' cap' w' h1 h2 h3 h4 h5
  exact h ao' cap' w' ⟨by simp [hxs.1, hb.1], by rw [List.map_append]; exact h1⟩ h2 h3 h4 h5

theorem step_full_bytes {w : World} {ops : Array Oper} {o : Oper} {a : Act} {Q : Exit → Act → World → Prop} {K : Act → World → Prop} {E : Prop} (hgd : o.guard = none) (s x : Operand)
    (ho : o.op = .call { callee := .builtin .append, args := #[s, x], argTypes := #[23, 23] })
    (bo : Option Addr) (k : Nat) (xs : List UInt8) (hs : a.eval s = .slice bo k k) (hxs : Bytes w bo k xs) (hb0 : bo = none → k = 0)
    (ao : Option Addr) (m c : Nat) (l : List UInt8) (hx : a.eval x = .slice ao m c) (hb : Bytes w ao m l) (hbytes : k + m ≤ 140737488355328)
    (h : ∀ ao' cap' w', Bytes w' ao' (k + m) (xs ++ l) → Ext nob w w' → k + m ≤ cap' → (∀ i, inA ao' i → (inA bo i ∧ m = 0) ∨ w.heap.size ≤ i) → (ao' = none → k + m = 0 ∧ cap' = 0) → K (a.put o.dst (.slice ao' (k + m) cap')) w') :
    if Region.wanted o (yielded ops a.tmps) = true then Oper.wp Tryd.prog o a w K Q else E := by
  obtain ⟨i, hi, hz, hsz, hby⟩ := info_parts info_byte
  refine step_app_full hgd s x 23 ho 5 i (.int .u8 0) 1 1 Tryd.underlying23 hi hz hsz hby rfl (by decide) bo k (xs.map byt) hs (by simp [hxs.1]) hxs.2 hb0 ao m c (l.map byt) hx (by simp [hb.1]) hb.2 (oneCell_byt l) (by omega) (by unfold maxLen; omega) ?_
  intro ao' cap' w' h1 h2 h3 h4 h5
  exact h ao' cap' w' ⟨by simp [hxs.1, hb.1], by rw [List.map_append]; exact h1⟩ h2 h3 h4 h5

theorem fold_write (L b : List UInt8) (q mr : Nat) (hmr : mr < 64) (hq : (L.drop (64 * (L.length / 64)) ++ b).length = 64 * q + mr) :
    fold firstS ((L ++ b).length / 64) (L ++ b) = fold (fold firstS (L.length / 64) L) q (L.drop (64 * (L.length / 64)) ++ b) ∧ (L ++ b).drop (64 * ((L ++ b).length / 64)) = (L.drop (64 * (L.length / 64)) ++ b).drop (64 * q) := by
  have h0 : (L ++ b).length / 64 = L.length / 64 + q := by simp at hq ⊢; omega
  have hX : (L.take (64 * (L.length / 64))).length = 64 * (L.length / 64) := by simp; omega
  have hA : L ++ b = L.take (64 * (L.length / 64)) ++ (L.drop (64 * (L.length / 64)) ++ b) := by rw [← List.append_assoc, List.take_append_drop]
  have hB : fold firstS (L.length / 64) L = fold firstS (L.length / 64) (L.take (64 * (L.length / 64))) := by
    have := fold_append (L.length / 64) firstS (L.take (64 * (L.length / 64))) (L.drop (64 * (L.length / 64))) 0 hX
    rw [List.take_append_drop] at this
    simpa [fold] using this
  constructor
  · rw [h0, hB]
    conv => lhs; rw [hA]
    exact fold_append _ _ _ _ _ hX
  · rw [h0]
    conv => lhs; rw [hA]
    rw [List.drop_append, hX, List.drop_eq_nil_of_le (by rw [hX]; omega), List.nil_append]
    congr 1; omega

theorem hwrite_fin {L b ALL : List UInt8} {F : Nat → Prop} {w wr w3 : World} {p n q mr cv : Nat} {av : Option Addr} {s0 sr : S8} {o0 o1 o2 o3 o4 o5 o6 o7 o8 o9 : Value}
    (hF : F p) (hpw : p < w.heap.size) (e1 : Ext nob w wr) (e2 : Ext nob wr w3)
    (hp : w3.heap[p]? = some (.cells #[o0, o1, o2, o3, o4, o5, o6, o7, o8, o9] 158 (0, 0)))
    (q1 : Rd w3 av ((ALL.drop (64 * q)).map byt)) (q2 : av = none → mr = 0 ∧ cv = 0) (q3 : mr ≤ cv) (q4 : ∀ k, inA av k → wr.drew.heap.size ≤ k) (q5 : ∀ k, inA av k → k < w3.heap.size)
    (hb : b.length = n) (hl : (ALL.drop (64 * q)).length = mr) (hq : 64 * q ≤ ALL.length) (hm : mr < 64) (hA : ALL = L.drop (64 * (L.length / 64)) ++ b) (hs : sr = fold s0 q ALL) (hs0 : s0 = fold firstS (L.length / 64) L) :
    Ending.returned (.pointer (some ⟨p, 0, none⟩)) = Ending.returned (.pointer (some ⟨p, 0, none⟩)) ∧ (∃ F', HashAt ((((((((((w3.setCell ⟨p, 0, none⟩ (.int .u32 sr.a)).setCell ⟨p, 1, none⟩ (.int .u32 sr.b)).setCell ⟨p, 2, none⟩ (.int .u32 sr.c)).setCell ⟨p, 3, none⟩ (.int .u32 sr.d)).setCell ⟨p, 4, none⟩ (.int .u32 sr.e)).setCell ⟨p, 5, none⟩ (.int .u32 sr.f)).setCell ⟨p, 6, none⟩ (.int .u32 sr.g)).setCell ⟨p, 7, none⟩ (.int .u32 sr.h)).setCell ⟨p, 8, none⟩ (.slice av mr cv)).setCell ⟨p, 9, none⟩ (.int .i64 ((L.length : Int) + (n : Int)))) p (L ++ b) F' ∧ (∀ k, F' k → F k ∨ w.heap.size ≤ k)) ∧
      Ext (fun k => k = p) w ((((((((((w3.setCell ⟨p, 0, none⟩ (.int .u32 sr.a)).setCell ⟨p, 1, none⟩ (.int .u32 sr.b)).setCell ⟨p, 2, none⟩ (.int .u32 sr.c)).setCell ⟨p, 3, none⟩ (.int .u32 sr.d)).setCell ⟨p, 4, none⟩ (.int .u32 sr.e)).setCell ⟨p, 5, none⟩ (.int .u32 sr.f)).setCell ⟨p, 6, none⟩ (.int .u32 sr.g)).setCell ⟨p, 7, none⟩ (.int .u32 sr.h)).setCell ⟨p, 8, none⟩ (.slice av mr cv)).setCell ⟨p, 9, none⟩ (.int .i64 ((L.length : Int) + (n : Int)))) := by
  have hl9 : ((L.length : Int) + n) = (((L ++ b).length : Nat) : Int) := by simp [hb]
  have HF := fold_write L b q mr hm (by rw [← hA]; simp at hl; omega)
  rw [← hA] at HF
  have hw13 := Nat.le_trans e1.size e2.size
  have hap : ∀ k, inA av k → k ≠ p := fun k hk e => by have := q4 k hk; have := e1.size; simp at *; omega
  have hfin := set10 hp (.int .u32 sr.a) (.int .u32 sr.b) (.int .u32 sr.c) (.int .u32 sr.d) (.int .u32 sr.e) (.int .u32 sr.f) (.int .u32 sr.g) (.int .u32 sr.h) (.slice av mr cv) (.int .i64 ((L.length : Int) + n))
  have E3 : Ext (fun k => k = p) w3 ((((((((((w3.setCell ⟨p, 0, none⟩ (.int .u32 sr.a)).setCell ⟨p, 1, none⟩ (.int .u32 sr.b)).setCell ⟨p, 2, none⟩ (.int .u32 sr.c)).setCell ⟨p, 3, none⟩ (.int .u32 sr.d)).setCell ⟨p, 4, none⟩ (.int .u32 sr.e)).setCell ⟨p, 5, none⟩ (.int .u32 sr.f)).setCell ⟨p, 6, none⟩ (.int .u32 sr.g)).setCell ⟨p, 7, none⟩ (.int .u32 sr.h)).setCell ⟨p, 8, none⟩ (.slice av mr cv)).setCell ⟨p, 9, none⟩ (.int .i64 ((L.length : Int) + (n : Int)))) := by
    repeat (with_reducible first | refine Ext.setCell ?_ _ _ (fun _ => rfl) | exact Ext.refl _ _)
  generalize ((((((((((w3.setCell ⟨p, 0, none⟩ (.int .u32 sr.a)).setCell ⟨p, 1, none⟩ (.int .u32 sr.b)).setCell ⟨p, 2, none⟩ (.int .u32 sr.c)).setCell ⟨p, 3, none⟩ (.int .u32 sr.d)).setCell ⟨p, 4, none⟩ (.int .u32 sr.e)).setCell ⟨p, 5, none⟩ (.int .u32 sr.f)).setCell ⟨p, 6, none⟩ (.int .u32 sr.g)).setCell ⟨p, 7, none⟩ (.int .u32 sr.h)).setCell ⟨p, 8, none⟩ (.slice av mr cv)).setCell ⟨p, 9, none⟩ (.int .i64 ((L.length : Int) + (n : Int)))) = wz at hfin E3 ⊢
  rw [hl9] at hfin
  refine ⟨rfl, ⟨fun k => k = p ∨ inA av k, ⟨sr, av, mr, cv, hfin, q3, fun _ => ?_, ?_, .inl rfl, fun k hk => ⟨.inr hk, hap k hk⟩, fun k hk => ?_, fun h => (q2 h).1⟩, fun k hk => ?_⟩, (e1.trans' e2).nob.trans' E3⟩
  · rw [HF.1, hs, hs0]
  · rw [HF.2]
    exact ⟨hl, q1.ext E3 (fun k hk e => hap k hk e)⟩
  · rcases hk with rfl | hk
    · exact blk_lt hfin
    · exact Nat.lt_of_lt_of_le (q5 k hk) E3.size
  · rcases hk with rfl | hk
    · exact .inl hF
    · have := q4 k hk
      have := e1.size
      simp at *
      right; omega

set_option maxRecDepth 20000 in
set_option maxHeartbeats 4000000 in
theorem hwrite_ok (p : Nat) (L : List UInt8) (F : Nat → Prop) (ao : Option Addr) (n c : Nat) (b : List UInt8) (w : World) (hh : HashAt w p L F) (hb : Bytes w ao n b) (hG : Laid w) (hn : L.length + n ≤ big) :
    Calls Tryd.prog 84 #[.pointer (some ⟨p, 0, none⟩), .slice ao n c] w fun e w' => e = .returned (.pointer (some ⟨p, 0, none⟩)) ∧ (∃ F', HashAt w' p (L ++ b) F' ∧ (∀ k, F' k → F k ∨ w.heap.size ≤ k)) ∧ Ext (fun k => k = p) w w' := by
  obtain ⟨s, lo, m, lc, h1, hmc, h2, h3, hF, h5, h6, h7⟩ := id hh
  go_enter Tryd.func84, Tryd.ntmps84
  go_wp2_with fail
  refine (words_ok p L F w hh hG).mono ?_
  rintro e w1 ⟨rfl, e1⟩
  have hp1 := e1.blk h1 (fun h => h)
  have hp1' := blk_alloc hp1 (.cells #[.int .u32 0, .int .u32 0, .int .u32 0, .int .u32 0, .int .u32 0, .int .u32 0, .int .u32 0, .int .u32 0] 156)
  obtain ⟨c0, c1, c2, c3, c4, c5, c6, c7, c8, c9, -, hlt⟩ := cells10 hp1
  obtain ⟨s0, hs0⟩ : ∃ s0, s0 = fold firstS (L.length / 64) L := ⟨_, rfl⟩
  rw [← hs0]
  have HS0 := Lib.hid hs0
  have H1 := Lib.hid h1
  have HP1 := Lib.hid hp1
  have H2 := Lib.hid h2
  have H3 := Lib.hid h3
  have H5 := Lib.hid h5
  have H6 := Lib.hid h6
  have H7 := Lib.hid h7
  have HE1 := Lib.hid e1
  have HG := Lib.hid hG
  have HB := Lib.hid hb
  clear hs0 h1 hp1 hp1' h2 h3 h5 h6 h7 e1 hG hb hh
  obtain ⟨sa, sb, sc, sd, se, sf, sg, sh⟩ := s0
  simp only [S8.arr]
  have hmm : (m : Int) ≤ lc := by omega
  have hbb : Hid (m + n ≤ 140737488355328) := by have := H3.out.1; simp at this; unfold big at hn; unfold Hid; omega
  have HBG := Lib.hid hn
  clear hn
  go_wp2_with fail
  go_region_held3 (fun w' => w'.cell? ⟨p, 8, none⟩ = some (.slice lo m lc)) (first | go_keep | assumption) (first | (refine step_full_bytes rfl (.tmp 25) (.tmp 26) rfl lo m _ rfl ((H3.out.ext HE1.out (fun _ _ h => h)).ext (((Ext.refl nob w1).alloc _).drew) (fun _ _ h => h)) H7.out ao n c b rfl ((HB.out.ext HE1.out (fun _ _ h => h)).ext (((Ext.refl nob w1).alloc _).drew) (fun _ _ h => h)) hbb.out ?_; intro ao2 cap2 w2 r1 r2 r3 r4 r5; have R1 := Lib.hid r1; have R2 := Lib.hid (Ext.undrew r2); have R3 := Lib.hid r3; have R4 := Lib.hid r4; have R5 := Lib.hid r5; have hz8 := (Ext.undrew r2).cell (p := ⟨p, 8, none⟩) (v := .slice lo m lc) (by assumption) (fun h => h); clear r1 r2 r3 r4 r5))
  obtain ⟨ALL, hALL⟩ : ∃ ALL, ALL = L.drop (64 * (L.length / 64)) ++ b := ⟨_, rfl⟩
  obtain ⟨s0, hs0⟩ : ∃ s0 : S8, s0 = ⟨sa, sb, sc, sd, se, sf, sg, sh⟩ := ⟨_, rfl⟩
  obtain ⟨S, hS⟩ : ∃ S, S = w1.heap.size := ⟨_, rfl⟩
  rw [← hALL] at R1
  have hst : w2.heap[S]? = some (.cells s0.arr 156) := by rw [hs0, hS]; exact R2.out.blk (blk_new w1 _) (fun h => h)
  have hE2 : Hid (Ext nob w1 w2) := ((Ext.refl nob w1).alloc _).trans' R2.out
  have hfar : Hid (∀ k, inA ao2 k → k ≠ S ∧ k ≠ p) := fun k hk => by
    have hp1 : p < w1.heap.size := hlt
    have hw := HE1.out.size
    rcases R4.out k hk with ⟨h, _⟩ | h
    · have := H6.out k (H5.out k h).1
      have := (H5.out k h).2
      exact ⟨by omega, this⟩
    · simp at h
      exact ⟨by omega, by omega⟩
  have hSlt : S < w2.heap.size := blk_lt hst
  have hSp : S ≠ p := by omega
  have HST := Lib.hid hst
  have HALL := Lib.hid hALL
  have HS := Lib.hid hS
  have HSS := Lib.hid hs0
  clear hst hALL hs0 c0 c1 c2 c3 c4 c5 c6 c7 c8
  rw [← hS]
  clear hS
  go_wp2_with fail
  go_loopw [6] (fun a wr => ∃ (q : Nat) (ar : Option Addr) (mr cr : Nat), a = .slice ar mr cr ∧ mr ≤ cr ∧ 64 * q ≤ ALL.length ∧ Bytes wr ar mr (ALL.drop (64 * q)) ∧ wr.heap[S]? = some (.cells (fold s0 q ALL).arr 156) ∧ Ext nob w1 wr ∧ (∀ k, inA ar k → k ≠ S ∧ k ≠ p) ∧ S < wr.heap.size ∧ (ar = none → mr = 0)) (fun a _ => match a with | .slice _ n _ => n | _ => 0)
  case atStart => exact ⟨0, ao2, m + n, cap2, rfl, R3.out, by omega, R1.out, HST.out, hE2.out, hfar.out, hSlt, fun h => (R5.out h).1⟩
  case round =>
    obtain ⟨q, ar, mr, cr, rfl, hmr, hq, hbr, hSr, hEr, hfr, hslr, hnr⟩ := hrel
    obtain ⟨d0, d1, d2, d3, d4, d5, d6, d7, -⟩ := cells8 hSr
    have HBR := Lib.hid hbr
    have HSR := Lib.hid hSr
    have HER := Lib.hid hEr
    have HFR := Lib.hid hfr
    have HQ := Lib.hid hq
    have HNR := Lib.hid hnr
    obtain ⟨sr, hsr⟩ : ∃ sr, sr = fold s0 q ALL := ⟨_, rfl⟩
    rw [← hsr] at d0 d1 d2 d3 d4 d5 d6 d7
    have HSQ := Lib.hid hsr
    clear hbr hSr hEr hfr hq hnr hsr
    by_cases h64 : 64 ≤ mr
    · have h64' : (64 : Int) ≤ mr := by omega
      have fS := fun i => (show wr.frozen? ⟨S, i, none⟩ = false by simp [World.frozen?, HSR.out])
      obtain ⟨va, vb, vc, vd, ve, vf, vg, vh⟩ := sr
      have HTK : Hid (∀ w', Ext nob wr w' → Calls Tryd.prog 125 #[.agg #[.int .u32 va, .int .u32 vb, .int .u32 vc, .int .u32 vd, .int .u32 ve, .int .u32 vf, .int .u32 vg, .int .u32 vh], .slice ar mr cr] w' fun e w2 => ∃ s' : S8, e = .returned (.agg #[.int .u32 s'.a, .int .u32 s'.b, .int .u32 s'.c, .int .u32 s'.d, .int .u32 s'.e, .int .u32 s'.f, .int .u32 s'.g, .int .u32 s'.h]) ∧ s' = fold s0 (q + 1) ALL ∧ Ext nob wr w2) := fun w' he => (take_ok va vb vc vd ve vf vg vh ar mr cr (ALL.drop (64 * q)) w' (HBR.out.ext he (fun _ _ h => h)) h64 (HG.out.ext (HE1.out.trans' (HER.out.trans' he)) (fun h => h) (fun h => h))).mono (by
        rintro e w2 ⟨rfl, g⟩
        exact ⟨_, rfl, by rw [fold_snoc, ← HSQ.out], he.trans' g⟩)
      by_cases hcr : cr = 64
      · subst hcr
        have hmr64 : mr = 64 := by omega
        subst hmr64
        go_wp2_with fail
        go_region_law (first | (go_simp; go_at_call 125; refine (HTK.out _ ((Ext.refl nob wr).drew)).mono ?_; rintro e w3 ⟨s', rfl, g1, g2⟩; have g3 := g2.blk HSR.out (fun h => h); obtain ⟨z0, z1, z2, z3, z4, z5, z6, z7, zl⟩ := cells8 g3; have zf := fun i => (show w3.frozen? ⟨S, i, none⟩ = false by simp [World.frozen?, g3]); have G1 := Lib.hid g1; have G2 := Lib.hid g2; have G3 := Lib.hid g3; clear g1 g2 g3))
        go_simp
        go_wp2_with fail
        go_roundw
        case rel =>
          have hlen := HBR.out.1
          have hqq := HQ.out
          have hfin := set8' G3.out (.int .u32 s'.a) (.int .u32 s'.b) (.int .u32 s'.c) (.int .u32 s'.d) (.int .u32 s'.e) (.int .u32 s'.f) (.int .u32 s'.g) (.int .u32 s'.h)
          refine ⟨q + 1, ar, 0, 0, rfl, Nat.le_refl _, ?_, ?_, ?_, ?_, HFR.out, ?_, fun _ => rfl⟩
          · simp at hlen; omega
          · rw [List.drop_eq_nil_of_le (by simp at hlen; omega)]; exact Bytes.nil _ _
          · rw [← G1.out]; exact hfin
          · repeat (with_reducible first | refine Ext.setCell ?_ _ _ (fun h => absurd HS.out (by simp only [] at h; omega)) | exact HER.out.trans' G2.out)
          · exact blk_lt hfin
        case measure => exact Nat.zero_lt_succ _
      · have hcr' : 64 < cr := by omega
        go_wp2_with fail
        go_region_law (first | (go_simp; go_at_call 125; refine (HTK.out _ ((Ext.refl nob wr).drew)).mono ?_; rintro e w3 ⟨s', rfl, g1, g2⟩; have g3 := g2.blk HSR.out (fun h => h); obtain ⟨z0, z1, z2, z3, z4, z5, z6, z7, zl⟩ := cells8 g3; have zf := fun i => (show w3.frozen? ⟨S, i, none⟩ = false by simp [World.frozen?, g3]); have G1 := Lib.hid g1; have G2 := Lib.hid g2; have G3 := Lib.hid g3; clear g1 g2 g3))
        go_simp
        go_wp2_with fail
        go_roundw
        case rel =>
          have hlen := HBR.out.1
          have hqq := HQ.out
          have hfin := set8' G3.out (.int .u32 s'.a) (.int .u32 s'.b) (.int .u32 s'.c) (.int .u32 s'.d) (.int .u32 s'.e) (.int .u32 s'.f) (.int .u32 s'.g) (.int .u32 s'.h)
          have hE3 : Ext (fun k => k = S) wr ((((((((w3.setCell ⟨S, 0, none⟩ (.int .u32 s'.a)).setCell ⟨S, 1, none⟩ (.int .u32 s'.b)).setCell ⟨S, 2, none⟩ (.int .u32 s'.c)).setCell ⟨S, 3, none⟩ (.int .u32 s'.d)).setCell ⟨S, 4, none⟩ (.int .u32 s'.e)).setCell ⟨S, 5, none⟩ (.int .u32 s'.f)).setCell ⟨S, 6, none⟩ (.int .u32 s'.g)).setCell ⟨S, 7, none⟩ (.int .u32 s'.h)) := by
            have := G2.out.nob (F := fun k => k = S)
            repeat (with_reducible first | refine Ext.setCell ?_ _ _ (fun _ => rfl) | exact this)
          refine ⟨q + 1, ar.map (·.add 64), mr - 64, cr - 64, ?_, by omega, ?_, ?_, ?_, ?_, fun k hk => HFR.out k (in_map hk), ?_, fun h => ?_⟩
          · cases ar with
            | none => exact absurd (HNR.out rfl) (by omega)
            | some a => rfl
          · simp at hlen; omega
          · have := HBR.out.drop 64 (ao' := ar.map (·.add 64)) (fun a _ h => by rw [h]; rfl)
            rw [List.drop_drop] at this
            exact this.ext hE3 (fun k hk e => (HFR.out k (in_map hk)).1 e)
          · rw [← G1.out]; exact hfin
          · repeat (with_reducible first | refine Ext.setCell ?_ _ _ (fun h => absurd HS.out (by simp only [] at h; omega)) | exact HER.out.trans' G2.out)
          · exact blk_lt hfin
          · cases ar with
            | none => have := HNR.out rfl; omega
            | some a => cases h
        case measure => simp; omega
    · have h64' : ¬ (64 : Int) ≤ mr := by omega
      have hlt64 : mr < 64 := by omega
      have hlw : p < w.heap.size := H6.out p hF
      have k9 := HER.out.cell c9 (fun h => h)
      have HP := Lib.hid (HER.out.blk HP1.out (fun h => h))
      have f0 := fun i => (show wr.frozen? ⟨p, i, none⟩ = false by simp [World.frozen?, HP.out])
      have hplt : p < wr.heap.size := blk_lt HP.out
      have hnn := HB.out.1
      have ew : IntKind.i64.wrap ((L.length : Int) + n) = ((L.length + n : Nat) : Int) := by rw [IntWalk.i64_in _ (by have := HBG.out; unfold big at this; omega)]; omega
      have hmb : Hid (mr ≤ big) := by unfold Hid big; omega
      clear c9
      go_wp2_with fail
      go_region_law (first | (go_simp; go_at_call 114; refine (clone_ok ar mr cr _ wr.drew (HBR.out.ext ((Ext.refl nob wr).drew) (fun _ _ h => h)) hmb.out).mono ?_; rintro e w3 ⟨v, rfl, g1, g2, g3⟩; obtain ⟨av, cv, rfl, q1, q2, q3, q4⟩ := Own.shape g1; have Q1 := Lib.hid q1; have Q2 := Lib.hid q2; have Q3 := Lib.hid q3; have Q4 := Lib.hid (fun k hk => g3 k (q4 k hk)); have Q5 := Lib.hid (fun k hk => g1.lt' k (q4 k hk)); clear q1 q2 q3 q4; have d0' := g2.cell d0 (fun h => h); have d1' := g2.cell d1 (fun h => h); have d2' := g2.cell d2 (fun h => h); have d3' := g2.cell d3 (fun h => h); have d4' := g2.cell d4 (fun h => h); have d5' := g2.cell d5 (fun h => h); have d6' := g2.cell d6 (fun h => h); have d7' := g2.cell d7 (fun h => h); obtain ⟨z0, z1, z2, z3, z4, z5, z6, z7, z8, z9, zf, hplt3⟩ := cells10 (g2.blk HP.out (fun h => h)); have HP3 := Lib.hid (g2.blk HP.out (fun h => h)); have G2 := Lib.hid (Ext.undrew g2); clear g1 g2 g3))
      all_goals go_wp2_with fail
      all_goals go_ret
      all_goals exact hwrite_fin hF hlw (HE1.out.trans' HER.out) G2.out HP3.out Q1.out Q2.out Q3.out Q4.out Q5.out hnn HBR.out.1 HQ.out hlt64 HALL.out HSQ.out (HSS.out.trans HS0.out)
end Go.Proofs.YtfgfhfmhadondaaDoor
