/- sealchainlaw24.ViewSame: the walk. -/
import Derived.Test.YtfgfhfmhadondaaDoorWorks24
import Derived.Test.YtfgfhfmhadondaaDoorMade24
import Derived.Deep.DeepCutAuto
import Derived.Laws.StructEq
import Derived.Stop.BytesEq
namespace Go.Proofs.YtfgfhfmhadondaaDoor
open Go.RowKit
set_option maxHeartbeats 400000

theorem vbytes_any (p : Nat) (L : List RowS) (F : Nat → Prop) (w : World) (hv : ViewAt w p L F) (hg : GoodV L) :
    Calls Tryd.prog 16 #[.pointer (some ⟨p, 0, none⟩)] w fun e w' => ∃ ao n cap, e = .returned (.slice ao n cap) ∧ Bytes w' ao n (viewB L) ∧ Ext nob w w' := by
  refine (vbytes_ok p L F w hv hg).mono ?_
  rintro e w' ⟨v, rfl, o1, o2, o3⟩
  obtain ⟨ao, cap, rfl, r1, -⟩ := Own.shape o1
  exact ⟨ao, _, cap, rfl, ⟨rfl, r1⟩, o2⟩

theorem made_rows (ao : Option Addr) (n c : Nat) (xs : List RowV) (most : Nat) (M : Int) (hM : M = (most : Int)) (w : World) (hx : SeedsAt w ao n xs) (hn : n < 4611686018427387904) (hm : most ≤ 1000) :
    Calls Tryd.prog 12 #[.slice ao n c, .int .i64 M] w fun e w' => ∃ mo cap, e = .returned (.slice mo (madeV xs most).length cap) ∧ RowsAt w' mo (madeV xs most).length (madeV xs most) ∧ Ext nob w w' ∧ (∀ k, inA mo k → w.heap.size ≤ k) := by
  subst hM
  refine (made_ok ao n c xs most w hx hn hm).mono ?_
  rintro e w' ⟨v, rfl, h1, h2, h3⟩
  obtain ⟨mo, cap, rfl, r1, -, -, r4⟩ := Own.shape h1
  refine ⟨mo, cap, rfl, ⟨rfl, r1, fun r hr => ?_⟩, h2, fun k hk => h3 k (r4 k hk)⟩
  obtain ⟨b1, b2, -⟩ := madeV_bytes (w := w) xs most (fun x hx' => (hx.2.2 x hx').1) r hr
  exact ⟨b1.ext h2 (fun _ _ h => h), by unfold big; omega⟩

theorem of_good (ao : Option Addr) (n c : Nat) (xs : List RowV) (w : World) (hx : RowsAt w ao n xs) (hn : n ≤ big) (hg : GoodV (xs.map RowV.row)) :
    Calls Tryd.prog 13 #[.slice ao n c] w fun e w' => ∃ q F', e = .returned (.pointer (some ⟨q, 0, none⟩)) ∧ ViewAt w' q (xs.map RowV.row) F' ∧ Ext nob w w' := by
  refine (lof_ok ao n c xs w hx hn).mono ?_
  have ho := ofGo_all (xs.map RowV.row) [] hg
  rw [ho]
  rintro e w' ⟨h1, h2⟩
  obtain ⟨q, F', rfl, k1, k2⟩ := h2 rfl
  exact ⟨q, F', rfl, k1, h1⟩

section
variable {w : World} {ops : Array Oper} {rest : List Oper} {o : Oper} {a : Act} {Q : Exit → Act → World → Prop}
/-- append(own, rows...), all at once. -/
theorem wpList_rows (hgd : o.guard = none) (s x : Operand)
    (ho : o.op = .call { callee := .builtin .append, args := #[s, x], argTypes := #[28, 28] })
    (v : Value) (hs : a.eval s = v) (hown : Own w 34 4 v 0 [])
    (ao : Option Addr) (m c : Nat) (ys : List RowV) (hm : ys.length = m) (hx : a.eval x = .slice ao m c) (hb : Rd w ao (ys.flatMap RowV.cells)) (hbytes : m ≤ 1000000)
    (h : ∀ v' w', Own w' 34 4 v' m (ys.flatMap RowV.cells) → Ext (fun k => v.ownBlock = some k) w w' → (∀ k, v'.ownBlock = some k → v.ownBlock = some k ∨ w.heap.size ≤ k) → wpList Tryd.prog ops Q rest (a.put o.dst v') w') : wpList Tryd.prog ops Q (o :: rest) a w := by
  obtain ⟨i, hi, hz, hsz, hby⟩ := info_parts info_row
  subst hm
  refine wpList_app hgd s x 28 ho 34 i (.agg #[.int .i64 0, .int .i64 0, .int .i64 0, .slice none 0 0]) 4 48 Tryd.underlying28 hi hz hsz hby rfl (by decide) v 0 [] hs hown ao ys.length c _ hx (cells_len ys) hb (oneCell_rows ys) (by omega) (by unfold maxLen; omega) ?_
  intro v' w' h1 h2 h3
  rw [Nat.zero_add] at h1
  exact h v' w' h1 h2 h3
end

theorem seed_one {w w5 : World} {o : RowV} (h : Bytes w o.ao o.n o.row.b ∧ o.n ≤ o.cap) (e : Ext nob w w5) : SeedsAt (w5.alloc (.cells #[.int .i64 o.row.step, .int .i64 o.row.node, .int .i64 o.row.kind, .slice o.ao o.n o.cap] 25)) (some ⟨w5.heap.size, 0, none⟩) 1 [o] :=
  ⟨rfl, Rd.of_heap (blk_new w5 _) 0 (fun j u hj => by simpa [RowV.cells] using hj), fun r hr => by
    simp at hr; subst hr
    exact ⟨h.1.ext (e.alloc _) (fun _ _ h => h), h.2⟩⟩
theorem made_one (o : RowV) : ∃ X, madeV [o] 1 = [X] ∧ mayS X.row = true ∧ ∀ w, Bytes w o.ao o.n o.row.b → Bytes w X.ao X.n X.row.b ∧ X.n ≤ big := by
  refine ⟨_, rfl, seedRow_may _ _ (by omega) (by omega), fun w h => ?_⟩
  obtain ⟨b1, b2, -⟩ := madeV_bytes (w := w) [o] 1 (fun x hx => by simp at hx; subst hx; exact h) _ (List.mem_singleton.2 rfl)
  exact ⟨b1, Nat.le_trans b2 (by decide)⟩
theorem own_thaw {w : World} {e : TypeId} {g off n cap : Nat} {xs : List Value} (h : Own w e 4 (.slice (some ⟨g, off, none⟩) n cap) n xs) (i : Nat) : w.frozen? ⟨g, i, none⟩ = false := by
  rcases h.2 with ⟨h, -⟩ | ⟨g', cap', cur, h, -, hg, -⟩
  · cases h
  · cases h
    simp [World.frozen?, hg]
theorem cell_other {w : World} {g a b : Nat} {v : Value} (h : a ≠ b) : (w.setCell ⟨g, a, none⟩ v).cell? ⟨g, b, none⟩ = w.cell? ⟨g, b, none⟩ := by
  apply World.cell?_setCell_other
  intro e
  cases e
  exact h rfl
theorem cell_same {w : World} {p : Addr} {u v : Value} (h : w.cell? p = some u) : (w.setCell p v).cell? p = some v := by
  apply World.cell?_setCell_same
  exact h
/-- A row stored in a list's place. -/
theorem rd_set {w : World} {g o : Nat} {ys : List RowV} (h : Rd w (some ⟨g, o, none⟩) (ys.flatMap RowV.cells)) (j : Nat) (r R : RowV) (hr : ys[j]? = some r) :
    Rd ((((w.setCell ⟨g, o + j * 4, none⟩ (.int .i64 R.row.step)).setCell ⟨g, o + j * 4 + 1, none⟩ (.int .i64 R.row.node)).setCell ⟨g, o + j * 4 + 2, none⟩ (.int .i64 R.row.kind)).setCell ⟨g, o + j * 4 + 3, none⟩ (.slice R.ao R.n R.cap)) (some ⟨g, o, none⟩) ((ys.set j R).flatMap RowV.cells) := by
  intro i u hi
  refine ⟨g, o, rfl, ?_⟩
  obtain ⟨d0, d1, d2, d3⟩ := row_cells h j r hr
  have hl : i < ((ys.set j R).flatMap RowV.cells).length := (List.getElem?_eq_some_iff.1 hi).1
  rw [cells_len, List.length_set] at hl
  obtain ⟨q, s, hqs, hs⟩ : ∃ q s, i = q * 4 + s ∧ s < 4 := ⟨i / 4, i % 4, by omega, by omega⟩
  subst hqs
  have hq : q < ys.length := by omega
  by_cases hqj : q = j
  · subst hqj
    have e := cells_at (ys.set q R) q R (by rw [List.getElem?_set_self hq]) s hs
    rw [hi] at e
    have hs' : s = 0 ∨ s = 1 ∨ s = 2 ∨ s = 3 := by omega
    rcases hs' with rfl | rfl | rfl | rfl
    · obtain rfl := Option.some.inj (e.trans rfl)
      refine (cell_other (by omega)).trans ((cell_other (by omega)).trans ((cell_other (by omega)).trans ?_))
      exact cell_same d0
    · obtain rfl := Option.some.inj (e.trans rfl)
      refine (cell_other (by omega)).trans ((cell_other (by omega)).trans ?_)
      exact cell_same ((cell_other (by omega)).trans d1)
    · obtain rfl := Option.some.inj (e.trans rfl)
      refine (cell_other (by omega)).trans ?_
      exact cell_same ((cell_other (by omega)).trans ((cell_other (by omega)).trans d2))
    · obtain rfl := Option.some.inj (e.trans rfl)
      exact cell_same ((cell_other (by omega)).trans ((cell_other (by omega)).trans ((cell_other (by omega)).trans d3)))
  · obtain ⟨x, hx⟩ : ∃ x, ys[q]? = some x := ⟨ys[q], List.getElem?_eq_getElem hq⟩
    have e := cells_at (ys.set j R) q x (by rw [List.getElem?_set_ne (Ne.symm hqj)]; exact hx) s hs
    rw [hi] at e
    have e2 := cells_at ys q x hx s hs
    have hc := h.cell (q * 4 + s) u (e2.trans e.symm)
    exact (cell_other (by omega)).trans ((cell_other (by omega)).trans ((cell_other (by omega)).trans ((cell_other (by omega)).trans hc)))
theorem ext_sets {F : Nat → Prop} {w0 w : World} (e : Ext F w0 w) {g : Nat} (hg : g < w0.heap.size → F g) (a b c d : Nat) (va vb vc vd : Value) :
    Ext F w0 ((((w.setCell ⟨g, a, none⟩ va).setCell ⟨g, b, none⟩ vb).setCell ⟨g, c, none⟩ vc).setCell ⟨g, d, none⟩ vd) :=
  (((e.setCell _ _ hg).setCell _ _ hg).setCell _ _ hg).setCell _ _ hg
theorem rows_take {w : World} {ao : Option Addr} {n j : Nat} {xs : List RowV} (h : RowsAt w ao n xs) (hj : j ≤ n) : RowsAt w ao j (xs.take j) := by
  refine ⟨by rw [List.length_take, h.1]; omega, ?_, fun r hr => h.2.2 r (List.mem_of_mem_take hr)⟩
  have := h.2.1
  conv at this => rw [← List.take_append_drop j xs, List.flatMap_append]
  exact this.left

set_option maxRecDepth 20000 in
set_option maxHeartbeats 4000000 in
theorem viewSame_ok (ao : Option Addr) (n c : Nat) (xs : List RowV) (o : RowV) (t0 t1 : Int) (w : World) (hx : SeedsAt w ao n xs) (hn : n < 4611686018427387904)
    (ho : Bytes w o.ao o.n o.row.b ∧ o.n ≤ o.cap) (hG : Laid w) :
    Calls Tryd.prog 3 #[.slice ao n c, rowV o.row.step o.row.node o.row.kind o.ao o.n o.cap, .agg #[.int .i64 t0, .int .i64 t1]] w fun e w' => e = .returned (.bool true) ∧ Ext nob w w' := by
  have HX := Lib.hid hx
  have HN := Lib.hid hn
  have HO := Lib.hid ho
  have HG := Lib.hid hG
  clear hx hn ho hG
  go_enter Tryd.func3, Tryd.ntmps3
  go_wp2_with fail
  obtain ⟨PB, hPB⟩ : ∃ b, b = w.heap.size := ⟨_, rfl⟩
  obtain ⟨PT, hPT⟩ : ∃ b, b = w.heap.size + 1 := ⟨_, rfl⟩
  obtain ⟨W1, hW1⟩ : ∃ W, W = (w.alloc (.cells #[.int .i64 o.row.step, .int .i64 o.row.node, .int .i64 o.row.kind, .slice o.ao o.n o.cap] 25)).alloc (.cells #[.int .i64 t0, .int .i64 t1] 26) := ⟨_, rfl⟩
  have kb : W1.heap[PB]? = some (.cells #[.int .i64 o.row.step, .int .i64 o.row.node, .int .i64 o.row.kind, .slice o.ao o.n o.cap] 25 (0, 0)) := by rw [hW1, hPB]; exact blk_alloc (blk_new w _) _
  have kt : W1.heap[PT]? = some (.cells #[.int .i64 t0, .int .i64 t1] 26 (0, 0)) := by rw [hW1, hPT]; exact blk_new1 w _ _
  have HE1 : Hid (Ext nob w W1) := by rw [hW1]; exact ((Ext.refl nob w).alloc _).alloc _
  rw [← hW1, ← hPT, ← hPB]
  clear hW1 hPB hPT
  refine (works24_ok _).mono ?_
  rintro e w2 ⟨rfl, g2⟩
  have KB := Lib.hid (g2.blk kb (fun h => h))
  have KT := Lib.hid (g2.blk kt (fun h => h))
  have HE2 : Hid (Ext nob w w2) := HE1.out.trans' g2
  clear g2 kb kt HE1
  go_wp2_with fail
  refine (made_rows ao n c xs 40 _ rfl _ (HX.out.ext HE2.out (fun _ _ h => h) (fun _ _ _ _ h => h)) HN.out (by omega)).mono ?_
  rintro e w3 ⟨mo, mc, rfl, r3, g3, f3⟩
  have hlen : (madeV xs 40).length ≤ 40 := by rw [madeV_len]; omega
  have hgood : GoodV ((madeV xs 40).map RowV.row) := by rw [madeV_rows]; exact madeS_good _ 40 (by omega)
  obtain ⟨ys, hys⟩ : ∃ ys, ys = madeV xs 40 := ⟨_, rfl⟩
  rw [← hys] at r3 hlen hgood ⊢
  obtain ⟨m, hm⟩ : ∃ m, m = ys.length := ⟨_, rfl⟩
  rw [← hm] at r3 hlen ⊢
  have HM := Lib.hid hm
  have R3 := Lib.hid r3
  have HL := Lib.hid hlen
  have GY := Lib.hid hgood
  have HE3 : Hid (Ext nob w w3) := HE2.out.trans' g3
  have HF3 := Lib.hid f3
  have KB3 := Lib.hid (g3.blk KB.out (fun h => h))
  have KT3 := Lib.hid (g3.blk KT.out (fun h => h))
  clear r3 hlen hgood g3 f3 KB KT hys hm HF3
  go_wp2_with fail
  refine (of_good mo m mc ys _ R3.out (Nat.le_trans HL.out (by decide)) GY.out).mono ?_
  rintro e w4 ⟨q, F, rfl, v4, g4⟩
  have V4 := Lib.hid v4
  have R4 : Hid (RowsAt w4 mo m ys) := R3.out.ext g4 (fun _ _ h => h) (fun _ _ _ _ h => h)
  have HE4 : Hid (Ext nob w w4) := HE3.out.trans' g4
  have KB4 := Lib.hid (g4.blk KB3.out (fun h => h))
  have KT4 := Lib.hid (g4.blk KT3.out (fun h => h))
  clear v4 g4 KB3 KT3 R3 HE3 HE2
  go_wp2_with (at_builtin; refine wpList_rows rfl (.tmp 23) (.tmp 24) rfl _ rfl (own_zero w4 _ _) mo m mc ys HM.out.symm rfl (R4.out.2.1.ext ((Ext.refl nob w4).alloc _) (fun _ _ h => h)) (Nat.le_trans HL.out (by decide)) ?_)
  intro v5 w5 o5 e5 f5
  have HE5 : Hid (Ext nob w4 w5) := ((Ext.refl nob w4).alloc _).trans e5 (fun i hi h => by simp [Value.ownBlock] at h; omega)
  obtain ⟨oo, oc, rfl, r5, -, oc5, b5⟩ := Own.shape o5
  have HF5 : Hid (∀ k, inA oo k → w4.heap.size ≤ k) := fun k hk => by
    rcases f5 k (b5 k hk) with h | h
    · simp [Value.ownBlock] at h; omega
    · have h2 : w4.heap.size + 1 ≤ k := h
      omega
  have O5 := Lib.hid o5
  have OC5 := Lib.hid oc5
  have R5 : Hid (RowsAt w5 oo m ys) := ⟨HM.out.symm, r5, fun r hr => ⟨(R4.out.2.2 r hr).1.ext HE5.out (fun _ _ h => h), (R4.out.2.2 r hr).2⟩⟩
  clear e5 r5 oc5 b5 f5 o5
  go_upto_if 30 with fail
  have HE45 : Hid (Ext nob w w5) := HE4.out.trans' HE5.out
  go_cut [9, 10] (fun s9 s10 wx => ∃ (bo : Option Addr) (m2 c2 : Nat) (zs : List RowV) (k : Nat), s9 = .slice bo m2 c2 ∧ s10 = .int .i64 (k : Int) ∧ RowsAt wx bo m2 zs ∧ m2 ≤ 40 ∧ GoodV (zs.map RowV.row) ∧ unlikeAt (ys.map RowV.row) (zs.map RowV.row) k ∧ Ext nob w4 wx)
  case first =>
    by_cases hm0 : m = 0
    · have h0 : ¬ (0 : Int) < (m : Int) := by omega
      clear hm0
      go_wp2_with fail
      go_meet
      exact ⟨oo, m, oc, ys, m, rfl, rfl, R5.out, HL.out, GY.out, unlike_self _ _, HE5.out⟩
    · have h0 : (0 : Int) < (m : Int) := by omega
      obtain ⟨t00, t01, tf0, tf1, ttl⟩ := cells2 (HE5.out.blk KT4.out (fun h => h))
      obtain ⟨j, hj⟩ : ∃ j : Nat, t0 % (m : Int) = (j : Int) := ⟨(t0 % m).toNat, by have := Int.emod_nonneg t0 (show (m : Int) ≠ 0 by omega); omega⟩
      have hjm : j < m := by have := Int.emod_lt_of_pos t0 h0; omega
      have hjm' : (j : Int) < (m : Int) := by omega
      have hjc : j ≤ oc := by have := OC5.out; omega
      clear tf0 tf1
      have HJ := Lib.hid hj
      clear hj
      go_wp2_with fail
      refine (bring_nat _ m _ rfl (by omega) (by have := HL.out; omega) j HJ.out _).mono ?_
      rintro e w6 ⟨rfl, rfl⟩
      by_cases h2 : (t1.tmod 2 == 0) = true
      · obtain ⟨k0, k1, k2, k3, -, -, -, -, kl⟩ := cells4 (HE5.out.blk KB4.out (fun h => h))
        go_wp2_with fail
        refine (made_rows (some ⟨w5.heap.size, 0, none⟩) 1 1 [o] 1 _ rfl _ (seed_one HO.out HE45.out) (by omega) (by omega)).mono ?_
        rintro e w6 ⟨xo, xc, rfl, r6, g6, f6⟩
        obtain ⟨X, hX, hXm, hXb⟩ := made_one o
        rw [hX] at r6 ⊢
        obtain ⟨x1, x2, x3⟩ := r6
        obtain ⟨xg, xf, rfl⟩ := x2.addr (by simp [RowV.cells])
        obtain ⟨c0, c1, c2, c3⟩ := row_cells x2 0 X rfl
        have HE56 : Hid (Ext nob w5 w6) := ((Ext.refl nob w5).alloc _).trans' g6
        obtain ⟨r, hr⟩ : ∃ r, ys[j]? = some r := ⟨ys[j]'(by rw [← HM.out]; exact hjm), List.getElem?_eq_getElem _⟩
        have R6 : Hid (RowsAt w6 oo m ys) := R5.out.ext HE56.out (fun _ _ h => h) (fun _ _ _ _ h => h)
        obtain ⟨og, of, rfl⟩ := R6.out.2.1.addr (fun h => by have h1 := cells_len ys; rw [h, ← HM.out] at h1; simp at h1; omega)
        obtain ⟨d0, d1, d2, d3⟩ := row_cells R6.out.2.1 j r hr
        have hxl : xg < w6.heap.size := World.block_lt_of_cell? w6 _ c0
        have hol : og < w6.heap.size := World.block_lt_of_cell? w6 _ d0
        have hog5 : og < w5.heap.size := by
          obtain ⟨q0, -⟩ := row_cells R5.out.2.1 j r hr
          exact World.block_lt_of_cell? w5 _ q0
        have fz : ∀ i, w6.frozen? ⟨og, i, none⟩ = false := fun i => (HE56.out.frozen (p := ⟨og, i, none⟩) hog5 (fun h => h)).trans (own_thaw O5.out i)
        have fz0 := fz (of + j * 4)
        have fz1 := fz (of + j * 4 + 1)
        have fz2 := fz (of + j * 4 + 2)
        have fz3 := fz (of + j * 4 + 3)
        have HXB := Lib.hid (hXb w (HO.out.1))
        have HOG : Hid (¬ og < w4.heap.size) := fun h => by have := HF5.out og ⟨_, rfl, rfl⟩; omega
        have HXM := Lib.hid hXm
        have HR := Lib.hid hr
        clear x1 x2 x3 g6 f6 hr hXm hX hXb fz hog5
        simp only [Nat.zero_mul, Nat.add_zero] at c0 c1 c2 c3
        go_wp2_with fail
        go_meet
        refine ⟨_, m, oc, ys.set j ⟨⟨r.row.step, X.row.node, X.row.kind, X.row.b⟩, X.ao, X.n, X.cap⟩, j, rfl, rfl, ?_⟩
        have hE := (ext_sets (HE5.out.trans' HE56.out) (g := og) (fun h => absurd h HOG.out) (of + j * 4) (of + j * 4 + 1) (of + j * 4 + 2) (of + j * 4 + 3) (.int .i64 r.row.step) (.int .i64 X.row.node) (.int .i64 X.row.kind) (.slice X.ao X.n X.cap)).alloc (.cells #[.int .i64 r.row.step, .int .i64 X.row.node, .int .i64 X.row.kind, .slice X.ao X.n X.cap] 34)
        refine ⟨⟨by rw [List.length_set]; exact HM.out.symm, (rd_set R6.out.2.1 j r ⟨⟨r.row.step, X.row.node, X.row.kind, X.row.b⟩, X.ao, X.n, X.cap⟩ HR.out).ext ((Ext.refl nob _).alloc _) (fun _ _ h => h), fun x hx => ?_⟩, HL.out, ?_, ?_, hE⟩
        · rcases List.mem_or_eq_of_mem_set hx with hx | rfl
          · exact ⟨(R4.out.2.2 x hx).1.ext hE (fun _ _ h => h), (R4.out.2.2 x hx).2⟩
          · exact ⟨HXB.out.1.ext (HE4.out.trans' hE) (fun _ _ h => h), HXB.out.2⟩
        · rw [List.map_set]
          refine GY.out.set (r := r.row) (by rw [List.getElem?_map, HR.out]; rfl) rfl ?_
          refine (mayS_iff _).2 ?_
          obtain ⟨p1, p2, p3, p4, p5, p6⟩ := (mayS_iff _).1 HXM.out
          obtain ⟨q1, q2, q3, q4, q5, q6⟩ := (mayS_iff _).1 (GY.out.1 r.row (List.mem_map_of_mem (List.mem_of_getElem? HR.out)))
          exact ⟨p1, q2, q3, p4, p5, p6⟩
        · rw [List.map_set]
          exact unlike_set
      · have h2' : (t1.tmod 2 == 0) = false := by simpa using h2
        clear h2
        go_wp2_with fail
        go_meet
        exact ⟨oo, j, oc, ys.take j, j, rfl, rfl, rows_take R5.out (by omega), by have := HL.out; omega, by rw [List.map_take]; exact GY.out.take j, by rw [List.map_take]; exact unlike_take (by rw [List.length_map, ← HM.out]; exact hjm), HE5.out⟩
  case rest =>
    obtain ⟨bo, m2, c2, zs, k, rfl, rfl, rz, hm2, gz, hu, ez⟩ := hcut
    obtain ⟨l1, l2, l3, l4⟩ := same_law GY.out gz hu
    obtain ⟨SA, hSA⟩ : ∃ s, s = decide (viewB (ys.map RowV.row) = viewB (zs.map RowV.row)) := ⟨_, rfl⟩
    obtain ⟨FI, hFI⟩ : ∃ s, s = firstI (ys.map RowV.row) (zs.map RowV.row) := ⟨_, rfl⟩
    have VX : Hid (ViewAt wc q (ys.map RowV.row) F) := V4.out.ext ez (fun _ _ h => h)
    have RX : Hid (RowsAt wc mo m ys) := R4.out.ext ez (fun _ _ h => h) (fun _ _ _ _ h => h)
    have EX : Hid (Ext nob w wc) := HE4.out.trans' ez
    have RZ := Lib.hid rz
    have GZ := Lib.hid gz
    have HM2 := Lib.hid hm2
    have L1 := Lib.hid l1
    have L2 := Lib.hid l2
    have L3 := Lib.hid l3
    have L4 := Lib.hid l4
    have HSA := Lib.hid hSA
    have HFI := Lib.hid hFI
    clear rz hm2 gz hu ez l1 l2 l3 l4 hSA hFI V4 R4 HE4 HE5 HE45 R5 O5 HF5 OC5 KB4 KT4
    go_wp2_with fail
    refine (of_good bo m2 c2 zs _ RZ.out (Nat.le_trans HM2.out (by decide)) GZ.out).mono ?_
    rintro e w6 ⟨p, F2, rfl, v6, g6⟩
    have VA : Hid (ViewAt w6 q (ys.map RowV.row) F) := VX.out.ext g6 (fun _ _ h => h)
    have VB := Lib.hid v6
    have RA : Hid (RowsAt w6 mo m ys) := RX.out.ext g6 (fun _ _ h => h) (fun _ _ _ _ h => h)
    have EA : Hid (Ext nob w w6) := EX.out.trans' g6
    clear v6 g6 VX RX EX RZ
    go_wp2_with fail
    refine (vbytes_any q _ F _ VA.out GY.out).mono ?_
    rintro e w7 ⟨a1, n1, k1, rfl, b7, g7⟩
    have B7 := Lib.hid b7
    have VB7 : Hid (ViewAt w7 p (zs.map RowV.row) F2) := VB.out.ext g7 (fun _ _ h => h)
    have G7 := Lib.hid g7
    clear b7 g7
    go_wp2_with fail
    refine (vbytes_any p _ F2 _ VB7.out GZ.out).mono ?_
    rintro e w8 ⟨a2, n2, k2, rfl, b8, g8⟩
    have B7' : Hid (Bytes w8 a1 n1 (viewB (ys.map RowV.row))) := B7.out.ext g8 (fun _ _ h => h)
    have B8 := Lib.hid b8
    have VA8 : Hid (ViewAt w8 q (ys.map RowV.row) F) := (VA.out.ext G7.out (fun _ _ h => h)).ext g8 (fun _ _ h => h)
    have VB8 : Hid (ViewAt w8 p (zs.map RowV.row) F2) := VB7.out.ext g8 (fun _ _ h => h)
    have RA8 : Hid (RowsAt w8 mo m ys) := (RA.out.ext G7.out (fun _ _ h => h) (fun _ _ _ _ h => h)).ext g8 (fun _ _ h => h) (fun _ _ _ _ h => h)
    have EA8 : Hid (Ext nob w w8) := (EA.out.trans' G7.out).trans' g8
    clear b8 g8 G7 VB7 VA VB RA EA B7
    go_wp2_with fail
    refine (eqb_ok a1 a2 n1 n2 _ _ _ _ _ B7'.out B8.out).mono ?_
    rw [← HSA.out]
    rintro e w9 ⟨rfl, rfl⟩
    clear B7' B8
    have hla : ((ys.map RowV.row).length ≤ 20000) := GY.out.2.2
    have hlb : ((zs.map RowV.row).length ≤ 20000) := GZ.out.2.2
    have HLA := Lib.hid hla
    have HLB := Lib.hid hlb
    clear hla hlb
    go_wp2_with fail
    refine (vfirst_ok q p _ _ F F2 _ VA8.out VB8.out HLA.out HLB.out).mono ?_
    rw [← HFI.out]
    rintro e w9 ⟨rfl, g9⟩
    have VA9 : Hid (ViewAt w9 q (ys.map RowV.row) F) := VA8.out.ext g9 (fun _ _ h => h)
    have VB9 : Hid (ViewAt w9 p (zs.map RowV.row) F2) := VB8.out.ext g9 (fun _ _ h => h)
    have RA9 : Hid (RowsAt w9 mo m ys) := RA8.out.ext g9 (fun _ _ h => h) (fun _ _ _ _ h => h)
    have EA9 : Hid (Ext nob w w9) := EA8.out.trans' g9
    clear g9 VA8 VB8 RA8 EA8
    go_wp2_with fail
    refine (vfirst_ok p q _ _ F2 F _ VB9.out VA9.out HLB.out HLA.out).mono ?_
    rw [← L1.out, ← HFI.out]
    rintro e w10 ⟨rfl, g10⟩
    have VA10 : Hid (ViewAt w10 q (ys.map RowV.row) F) := VA9.out.ext g10 (fun _ _ h => h)
    have VB10 : Hid (ViewAt w10 p (zs.map RowV.row) F2) := VB9.out.ext g10 (fun _ _ h => h)
    have RA10 : Hid (RowsAt w10 mo m ys) := RA9.out.ext g10 (fun _ _ h => h) (fun _ _ _ _ h => h)
    have EA10 : Hid (Ext nob w w10) := EA9.out.trans' g10
    clear g10 VA9 VB9 RA9 EA9
    have HL2 := HSA.out.trans (L2.out.trans (by rw [← HFI.out]))
    by_cases hs : SA = true
    · subst hs
      have hf : FI = -1 := by simpa using HL2.symm
      subst hf
      have heq : ys.map RowV.row = zs.map RowV.row := L4.out (by simpa using HSA.out.symm)
      obtain ⟨D, hD⟩ : ∃ D, D = ((shaB (viewB (ys.map RowV.row))).map byt).toArray := ⟨_, rfl⟩
      have hq : ∀ w, (Op.equalIn 10000 38 (.agg D) (.agg D)).run Tryd.prog w = .ok true w := fun w => by
        rw [hD]
        have := run_equalIn_bytes (P := Tryd.prog) w 9998 38 5 32 Tryd.underlying38 Tryd.underlying5 (fun _ => by kernel_rfl) (shaB (viewB (ys.map RowV.row))) (shaB (viewB (ys.map RowV.row))) (digest_len _ 32) (digest_len _ 32)
        rw [beq_self_eq_true] at this
        exact this
      have hm : Tryd.prog.eqGuardType Tryd.prog.depth 38 = false := by kernel_rfl
      have HD := Lib.hid hD
      have HEQ := Lib.hid heq
      clear HL2 L1 L2 L3 L4 HSA HFI hD heq
      go_wp2_with fail
      refine (of_good mo m mc ys _ RA10.out (Nat.le_trans HL.out (by decide)) GY.out).mono ?_
      rintro e w11 ⟨p3, F3, rfl, v11, g11⟩
      have VA11 : Hid (ViewAt w11 q (ys.map RowV.row) F) := VA10.out.ext g11 (fun _ _ h => h)
      have VB11 : Hid (ViewAt w11 p (zs.map RowV.row) F2) := VB10.out.ext g11 (fun _ _ h => h)
      have VC11 := Lib.hid v11
      have EA11 : Hid (Ext nob w w11) := EA10.out.trans' g11
      clear v11 g11 VA10 VB10 RA10 EA10
      go_wp2_with fail
      refine (vfirst_lit q p3 _ _ F F3 _ VA11.out VC11.out HLA.out HLA.out (-1) (firstI_self _)).mono ?_
      rintro e w12 ⟨rfl, g12⟩
      have VA12 : Hid (ViewAt w12 q (ys.map RowV.row) F) := VA11.out.ext g12 (fun _ _ h => h)
      have VB12 : Hid (ViewAt w12 p (zs.map RowV.row) F2) := VB11.out.ext g12 (fun _ _ h => h)
      have EA12 : Hid (Ext nob w w12) := EA11.out.trans' g12
      clear g12 VA11 VB11 VC11 EA11
      go_wp2_with fail
      refine (vsum_ok q _ F _ VA12.out GY.out (HG.out.ext EA12.out (fun h => h) (fun h => h))).mono ?_
      rw [← HD.out]
      rintro e w13 ⟨rfl, g13⟩
      have VB13 : Hid (ViewAt w13 p (zs.map RowV.row) F2) := VB12.out.ext g13 (fun _ _ h => h)
      have EA13 : Hid (Ext nob w w13) := EA12.out.trans' g13
      clear g13 VA12 VB12 EA12
      go_wp2_with fail
      refine (vsum_ok p _ F2 _ VB13.out GZ.out (HG.out.ext EA13.out (fun h => h) (fun h => h))).mono ?_
      rw [← HEQ.out, ← HD.out]
      rintro e w14 ⟨rfl, g14⟩
      have EA14 : Hid (Ext nob w w14) := EA13.out.trans' g14
      clear g14 VB13 EA13 GZ
      go_wp2_with fail
      go_ret
      exact ⟨rfl, EA14.out⟩
    · have hs' : SA = false := by simpa using hs
      subst hs'
      have hf : (FI == -1) = false := HL2.symm
      have hk : FI = (k : Int) := HFI.out.trans (L3.out (by simpa using HSA.out.symm))
      subst hk
      clear hs HL2 L1 L2 L3 L4 HSA HFI
      go_wp2_with fail
      refine (of_good mo m mc ys _ RA10.out (Nat.le_trans HL.out (by decide)) GY.out).mono ?_
      rintro e w11 ⟨p3, F3, rfl, v11, g11⟩
      have VA11 : Hid (ViewAt w11 q (ys.map RowV.row) F) := VA10.out.ext g11 (fun _ _ h => h)
      have VC11 := Lib.hid v11
      have EA11 : Hid (Ext nob w w11) := EA10.out.trans' g11
      clear v11 g11 VA10 VB10 RA10 EA10
      go_wp2_with fail
      refine (vfirst_lit q p3 _ _ F F3 _ VA11.out VC11.out HLA.out HLA.out (-1) (firstI_self _)).mono ?_
      rintro e w12 ⟨rfl, g12⟩
      have EA12 : Hid (Ext nob w w12) := EA11.out.trans' g12
      clear g12 VA11 VC11 EA11
      go_wp2_with fail
      go_ret
      exact ⟨rfl, EA12.out⟩
end Go.Proofs.YtfgfhfmhadondaaDoor
