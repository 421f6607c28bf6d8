/- num: what Writer and Reader do, function by function. -/
import Derived.Test.YtfgfhfmhadondaaDoorProg
import Derived.Test.YtfgfhfmhadondaaDoorBase
import Derived.Test.YtfgfhfmhadondaaDoorSpec
import Derived.RegionTactic
namespace Go.Proofs.YtfgfhfmhadondaaDoor
open Go.RowKit
set_option maxHeartbeats 400000

theorem info_byte : (Tryd.prog.info? 5).map (fun i => (i.zero, i.size, i.bytes)) = some (some (.int .u8 0), 1, 1) := by kernel_rfl

/-- The law on append at []byte. -/
theorem app_bytes {w : World} {ops : Array Oper} {rest : List Oper} {o : Oper} {a : Act} {Q : Exit → Act → World → Prop} (hgd : o.guard = none) (s x : Operand)
    (ho : o.op = .call { callee := .builtin .append, args := #[s, x], argTypes := #[23, 23] })
    (v : Value) (k : Nat) (xs : List Value) (hs : a.eval s = v) (hown : Own w 5 1 v k xs)
    (ao : Option Addr) (m c : Nat) (l : List UInt8) (hx : a.eval x = .slice ao m c) (hb : Bytes w ao m l) (hbytes : k + m ≤ 140737488355328)
    (h : ∀ v' w', Own w' 5 1 v' (k + m) (xs ++ l.map byt) → Ext (fun k => v.ownBlock = some k) w w' → (∀ k, v'.ownBlock = some k → v.ownBlock = some k ∨ w.heap.size ≤ k) → wpList Tryd.prog ops Q rest (a.put o.dst v') w') :
    wpList Tryd.prog ops Q (o :: rest) a w := by
  obtain ⟨i, hi, hz, hsz, hby⟩ := info_parts info_byte
  refine wpList_app hgd s x 23 ho 5 i (.int .u8 0) 1 1 Tryd.underlying23 hi hz hsz hby rfl (by decide) v k xs hs hown ao m c (l.map byt) hx (by simp [hb.1]) hb.2 (oneCell_byt l) (by omega) (by unfold maxLen; omega) h

theorem step_bytes {w : World} {ops : Array Oper} {o : Oper} {a : Act} {Q : Exit → Act → World → Prop} {K : Act → World → Prop} {E : Prop} (hgd : o.guard = none) (s x : Operand)
    (ho : o.op = .call { callee := .builtin .append, args := #[s, x], argTypes := #[23, 23] })
    (v : Value) (k : Nat) (xs : List Value) (hs : a.eval s = v) (hown : Own w 5 1 v k xs)
    (ao : Option Addr) (m c : Nat) (l : List UInt8) (hx : a.eval x = .slice ao m c) (hb : Bytes w ao m l) (hbytes : k + m ≤ 140737488355328)
    (h : ∀ v' w', Own w' 5 1 v' (k + m) (xs ++ l.map byt) → Ext (fun k => v.ownBlock = some k) w w' → (∀ k, v'.ownBlock = some k → v.ownBlock = some k ∨ w.heap.size ≤ k) → K (a.put o.dst v') w') :
    if Region.wanted o (yielded ops a.tmps) = true then Oper.wp Tryd.prog o a w K Q else E := by
  obtain ⟨i, hi, hz, hsz, hby⟩ := info_parts info_byte
  exact step_app hgd s x 23 ho 5 i (.int .u8 0) 1 1 Tryd.underlying23 hi hz hsz hby rfl (by decide) v k xs hs hown ao m c (l.map byt) hx (by simp [hb.1]) hb.2 (oneCell_byt l) (by omega) (by unfold maxLen; omega) h

theorem cmpOr (a b : Int) (w : World) (p : Nat) (hc0 : w.cell? ⟨p, 0, none⟩ = some (.int .i64 a)) (hc1 : w.cell? ⟨p, 1, none⟩ = some (.int .i64 b)) :
    Calls Tryd.prog 136 #[.slice (some ⟨p, 0, none⟩) 2 2] w fun e w' => e = .returned (.int .i64 (if a = 0 then b else a)) ∧ w = w' := by
  go_enter Tryd.func136, Tryd.ntmps136
  go_wp2
  by_cases ha : a = 0
  · subst ha
    by_cases hb : b = 0
    · subst hb
      refine wp_loop_rounds 3 ?_
      rw [rounds_succ]; go_wp2
      rw [rounds_succ]; go_wp2
      rw [rounds_succ]; go_wp2
      go_ret
      exact ⟨rfl, rfl⟩
    · have hb' : (b != 0) = true := by simpa using hb
      refine wp_loop_rounds 2 ?_
      rw [rounds_succ]; go_wp2
      rw [rounds_succ]; go_wp2
      go_ret
      exact ⟨rfl, rfl⟩
  · have ha' : (a != 0) = true := by simpa using ha
    refine wp_loop_rounds 1 ?_
    rw [rounds_succ]; go_wp2
    go_ret
    exact ⟨by simp, rfl⟩

/-- A writer without error, at block p: it has written l; its blocks are in F. -/
def Writer (w : World) (p : Nat) (l : List UInt8) (F : Nat → Prop) : Prop :=
  ∃ sv n, w.heap[p]? = some (.cells #[sv, .int .i64 0] 144 (0, 0)) ∧ Own w 5 1 sv n (l.map byt) ∧ F p ∧ (∀ k, sv.ownBlock = some k → F k) ∧ (∀ k, F k → k < w.heap.size)

theorem Writer.ext {w w' : World} {p : Nat} {l : List UInt8} {F G : Nat → Prop} (h : Writer w p l F) (e : Ext G w w') (hd : ∀ k, F k → ¬ G k) : Writer w' p l F := by
  obtain ⟨sv, n, h1, h2, h3, h4, h5⟩ := h
  exact ⟨sv, n, e.blk h1 (hd p h3), h2.ext e (fun k hk => hd k (h4 k hk)), h3, h4, fun k hk => Nat.lt_of_lt_of_le (h5 k hk) e.size⟩
theorem Writer.lt {w : World} {p : Nat} {l : List UInt8} {F : Nat → Prop} (h : Writer w p l F) : p < w.heap.size := by
  obtain ⟨sv, n, h1, h2, h3, h4, h5⟩ := h
  exact h5 p h3

/-- What a step of a writer leaves. -/
def Wrote (w : World) (p : Nat) (l : List UInt8) (F : Nat → Prop) (e : Ending) (w' : World) : Prop :=
  e = .returned (.pointer (some ⟨p, 0, none⟩)) ∧ ∃ F', Writer w' p l F' ∧ Ext F w w' ∧ (∀ k, F' k → F k ∨ w.heap.size ≤ k)

set_option maxRecDepth 20000 in
theorem put_ok (p : Nat) (l : List UInt8) (F : Nat → Prop) (ao : Option Addr) (n c : Nat) (b : List UInt8) (w : World) (hw : Writer w p l F) (hb : Bytes w ao n b) (hbF : ∀ k, inA ao k → k ≠ p) (hn : l.length + n ≤ big) :
    Calls Tryd.prog 111 #[.pointer (some ⟨p, 0, none⟩), .int .i64 0, .slice ao n c] w (Wrote w p (l ++ b) F) := by
  obtain ⟨sv, N, hp, ho, hF, hsF, hFl⟩ := hw
  have hNl : l.length = N := by simpa using ho.1
  subst hNl
  obtain ⟨c0, c1, f0, f1, hlt⟩ := cells2 hp
  have hne := ho.ne hp (by decide)
  have HE : ∀ x, Ext (fun k => k = p) w ((w.setCell ⟨p, 1, none⟩ (.int .i64 0)).alloc x) := fun x => ((Ext.refl (fun k => k = p) w).setCell ⟨p, 1, none⟩ _ (fun _ => rfl)).alloc x
  have HP : Hid (∀ x, ((w.setCell ⟨p, 1, none⟩ (.int .i64 0)).alloc x).heap[p]? = some (.cells #[sv, .int .i64 0] 144 (0, 0))) := fun x => blk_alloc (blk_set hp 1 _) x
  have HF := Lib.hid hsF; clear hsF
  have HL := Lib.hid hFl; clear hFl
  have HN := Lib.hid hne; clear hne
  clear hp
  go_enter Tryd.func111, Tryd.ntmps111
  go_wp2_with (first | (go_at_call 136; refine (cmpOr 0 0 _ _ (by simp) (by simp)).mono ?_; rintro e w' ⟨rfl, rfl⟩) | (at_builtin; refine app_bytes rfl (.tmp 28) (.tmp 29) rfl sv l.length (l.map byt) rfl ?c1 ao n c b rfl ?c2 ?c3 ?c4))
  case c1 => exact ho.ext (HE _) (fun k hk e => HN.out (e ▸ hk))
  case c2 => exact hb.ext (HE _) hbF
  case c3 => unfold big at hn; omega
  case c4 =>
    intro v' w1 h1 h2 h3
    obtain ⟨ao', cap', rfl, -, -, -, -⟩ := Own.shape h1
    have hp1 := h2.blk (HP.out _) HN.out
    have e1 : Ext F w w1 := ((HE _).mono (fun i _ h => by rw [h]; exact hF)).trans h2 (fun k _ hk => HF.out k hk)
    obtain ⟨d0, d1, g0, g1, hl1⟩ := cells2 hp1
    have hne1 := h1.ne hp1 (by decide)
    have hz := h2.size
    have HZ : Hid (w.heap.size ≤ w1.heap.size) := by simp at hz; unfold Hid; omega
    clear hz
    go_wp2_with fail
    go_ret
    refine ⟨rfl, fun k => F k ∨ (w.heap.size ≤ k ∧ k < w1.heap.size), ⟨_, _, blk_set hp1 0 _, by rw [List.map_append]; exact h1.ext ((Ext.refl (fun k => k = p) w1).setCell ⟨p, 0, none⟩ _ (fun _ => rfl)) (fun k hk e => hne1 (e ▸ hk)), .inl hF, ?_, ?_⟩, e1.setCell _ _ (fun _ => hF), ?_⟩
    · intro k hk
      have hk2 := h1.lt' k hk
      rcases h3 k hk with h | h
      · exact .inl (HF.out k h)
      · exact .inr ⟨by omega, hk2⟩
    · intro k hk
      have := HZ.out
      rw [World.size_setCell]
      rcases hk with h | h
      · have := HL.out k h; omega
      · exact h.2
    · intro k hk
      rcases hk with h | h
      · exact .inl h
      · exact .inr h.1

theorem write_ok (w : World) : Calls Tryd.prog 54 #[] w fun e w' => e = .returned (.pointer (some ⟨w.heap.size, 0, none⟩)) ∧ Writer w' w.heap.size [] (fun k => k = w.heap.size) ∧ Ext nob w w' := by
  go_enter Tryd.func54, Tryd.ntmps54
  go_wp2_with fail
  go_ret
  exact ⟨rfl, ⟨_, 0, blk_new w _, World.ownsRow_nil _ _ _ _, rfl, by simp [Value.ownBlock], by simp⟩, (Ext.refl _ w).alloc _⟩

theorem raw_ok (p : Nat) (l : List UInt8) (F : Nat → Prop) (ao : Option Addr) (n c : Nat) (b : List UInt8) (w : World) (hw : Writer w p l F) (hb : Bytes w ao n b) (hbF : ∀ k, inA ao k → k ≠ p) (hn : l.length + n ≤ big) :
    Calls Tryd.prog 91 #[.pointer (some ⟨p, 0, none⟩), .slice ao n c] w (Wrote w p (l ++ b) F) := by
  go_enter Tryd.func91, Tryd.ntmps91
  go_wp2_with fail
  refine (put_ok p l F ao n c b w hw hb hbF hn).mono ?_
  rintro e w1 ⟨rfl, F', h1, h2, h3⟩
  go_wp2_with fail
  go_ret
  exact ⟨rfl, F', h1, h2, h3⟩

theorem wide1 (w : World) : Calls Tryd.prog 113 #[.int .i64 1] w fun e w' => e = .returned (.bool true) ∧ w = w' := by
  go_enter Tryd.func113, Tryd.ntmps113
  go_wp2_with fail
  go_ret
  exact ⟨rfl, rfl⟩

set_option maxRecDepth 20000 in
theorem num1_ok (p : Nat) (l : List UInt8) (F : Nat → Prop) (n : Nat) (hn : n < 256) (w : World) (hw : Writer w p l F) (hb : l.length + 1 ≤ big) :
    Calls Tryd.prog 56 #[.pointer (some ⟨p, 0, none⟩), .int .i64 1, .int .i64 (n : Int)] w (Wrote w p (l ++ [UInt8.ofNat n]) F) := by
  go_enter Tryd.func56, Tryd.ntmps56
  go_wp2_with (go_at_call 113; refine (wide1 _).mono ?_; rintro e w' ⟨rfl, rfl⟩)
  have hmod : (n : Int) = ((UInt8.ofNat n).toNat : Int) := by simp; omega
  have HM := Lib.hid hmod; clear hmod
  refine wp_loop_rounds 2 ?_
  rw [rounds_succ]
  go_wp2_with (at_builtin; refine app_bytes rfl (.tmp 31) (.tmp 40) rfl (.slice none 0 0) 0 [] rfl (World.ownsRow_nil _ _ _ _) _ 1 1 [UInt8.ofNat n] rfl ?c2 ?c3 ?c4)
  case c3 => omega
  case c2 => exact bytes_new _ _ _ _ HM.out
  case c4 =>
    intro v' w1 h1 h2 h3
    obtain ⟨ao', cap', rfl, r1, -, -, r2⟩ := Own.shape h1
    have E1 : Ext nob w w1 := ((Ext.refl nob w).alloc _).trans h2 (fun k _ hk => by simp [Value.ownBlock] at hk)
    have HW := hw.ext E1 (fun k _ h => h)
    have HB : Bytes w1 ao' 1 [UInt8.ofNat n] := ⟨rfl, r1⟩
    have HN : Hid (∀ k, inA ao' k → k ≠ p) := fun k hk e => by
      rcases h3 k (r2 k hk) with h | h
      · simp [Value.ownBlock] at h
      · have := hw.lt; omega
    have HZ := Lib.hid E1.size
    clear h1 h2 h3 r1 r2
    go_wp2_with fail
    rw [rounds_succ]
    go_wp2_with fail
    refine (put_ok p l F ao' 1 cap' [UInt8.ofNat n] w1 HW HB HN.out hb).mono ?_
    rintro e w2 ⟨rfl, F', g1, g2, g3⟩
    go_wp2_with fail
    go_ret
    exact ⟨rfl, F', g1, E1.nob.trans' g2, fun k hk => (g3 k hk).imp id (fun h => by have := HZ.out; omega)⟩

/-- What reversing has done after i rounds. -/
def Half (n i : Nat) (cur cur' : Array Value) : Prop := cur'.size = cur.size ∧ ∀ t, t < cur.size → cur'[t]? = if t < n ∧ (t < i ∨ n ≤ t + i) then cur[n - 1 - t]? else cur[t]?

theorem half_step {n i : Nat} {cur cur' : Array Value} {x y : Value} (h : Half n i cur cur') (hn : n ≤ cur.size) (hi : 2 * i + 1 < n) (hx : cur'[i]? = some x) (hy : cur'[n - 1 - i]? = some y) :
    Half n (i + 1) cur ((cur'.setIfInBounds i y).setIfInBounds (n - 1 - i) x) := by
  obtain ⟨h1, h2⟩ := h
  refine ⟨by simp [h1], fun t ht => ?_⟩
  have hx' := h2 i (by omega)
  have hy' := h2 (n - 1 - i) (by omega)
  rw [if_neg (by omega)] at hx' hy'
  rw [Array.getElem?_setIfInBounds, Array.getElem?_setIfInBounds]
  by_cases e1 : n - 1 - i = t
  · subst e1
    rw [if_pos rfl, if_pos (by simp; omega), if_pos (by omega), show n - 1 - (n - 1 - i) = i from by omega, ← hx', hx]
  · rw [if_neg e1]
    by_cases e2 : i = t
    · subst e2
      rw [if_pos rfl, if_pos (by omega), if_pos (by omega), ← hy', hy]
    · rw [if_neg e2, h2 t ht]
      congr 1
      simp; omega

theorem half_end {n i : Nat} {cur cur' : Array Value} (h : Half n i cur cur') (hn : n ≤ cur.size) (hi : n ≤ 2 * i + 1) : cur'.toList.take n = (cur.toList.take n).reverse := by
  obtain ⟨h1, h2⟩ := h
  apply List.ext_getElem?
  intro t
  rw [List.getElem?_take]
  by_cases ht : t < n
  · have e : (cur.toList.take n).reverse[t]? = cur[n - 1 - t]? := by
      rw [List.getElem?_reverse (by simp; omega), List.getElem?_take]
      simp only [List.length_take, Array.length_toList, Nat.min_eq_left hn]
      rw [if_pos (by omega), Array.getElem?_toList]
    rw [if_pos ht, Array.getElem?_toList, h2 t (by omega), e]
    by_cases h3 : t < i ∨ n ≤ t + i
    · rw [if_pos ⟨ht, h3⟩]
    · rw [if_neg (fun h => h3 h.2)]; congr 1; omega
  · rw [if_neg ht, List.getElem?_eq_none (by simp; omega)]

set_option maxRecDepth 20000 in
theorem reverse_ok (v : Value) (n : Nat) (xs : List Value) (w : World) (h : Own w 5 1 v n xs) (h1 : ∀ u ∈ xs, ∃ z, u = .int .u8 z) :
    Calls Tryd.prog 112 #[v] w fun e w' => e = .returned (.tuple #[]) ∧ Own w' 5 1 v n xs.reverse ∧ Ext (fun k => v.ownBlock = some k) w w' := by
  rcases h.2 with ⟨rfl, rfl⟩ | ⟨g, cap, cur, rfl, _, hg, hnc, hcm, hcs, htk⟩
  · have hx : xs = [] := List.eq_nil_of_length_eq_zero (by simpa using h.1)
    subst hx
    go_enter Tryd.func112, Tryd.ntmps112
    go_wp2_with fail
    refine wp_loop_rounds 1 ?_
    rw [rounds_succ]
    go_wp2_with fail
    go_end0
    exact ⟨rfl, h, Ext.refl _ _⟩
  · unfold maxLen at hcm
    simp only [Nat.mul_one] at hcs htk
    go_enter Tryd.func112, Tryd.ntmps112
    go_wp2_with fail
    go_loopw [2, 3] (fun i j wr => ∃ (k : Nat) (cur' : Array Value), i = .int .i64 k ∧ j = .int .i64 ((n : Int) - 1 - k) ∧ k ≤ n ∧ wr.heap[g]? = some (.cells cur' 5 (0, 0)) ∧ Half n k cur cur' ∧ Ext (fun k => k = g) w wr) (fun i _ _ => n - (intOf i).toNat)
    case atStart => exact ⟨0, cur, rfl, by go_num, Nat.zero_le _, hg, ⟨rfl, fun t _ => by simp; omega⟩, Ext.refl _ _⟩
    case round =>
      obtain ⟨k, cur', rfl, rfl, hk, hg', hh, he⟩ := hrel
      have hsz : cur'.size = cap := hh.1.trans hcs
      have HG := Lib.hid hg'
      have HH := Lib.hid hh
      have HE := Lib.hid he
      have HT := Lib.hid htk
      clear hg' hh he hg htk
      by_cases hlt : 2 * k + 1 < n
      · obtain ⟨J, hJ⟩ : ∃ J : Nat, (n : Int) - 1 - k = J := ⟨n - 1 - k, by omega⟩
        rw [hJ]
        have hkn : k < n := by omega
        have hel : ∀ t, k ≤ t → t + k < n → ∃ z, cur'[t]? = some (.int .u8 z) := fun t h3 h4 => by
          have h5 := HH.out.2 t (by omega)
          rw [if_neg (by omega)] at h5
          obtain ⟨z, hz⟩ := h1 (cur[t]'(by omega)) (by
            rw [← HT.out]; refine List.mem_take_iff_getElem.2 ⟨t, by simp; omega, by simp⟩)
          exact ⟨z, by rw [h5, Array.getElem?_eq_getElem (by omega), hz]⟩
        obtain ⟨x, hx⟩ := hel k (Nat.le_refl _) (by omega)
        obtain ⟨y, hy⟩ := hel J (by omega) (by omega)
        clear hel h1
        have cx : wr.cell? ⟨g, k, none⟩ = some (.int .u8 x) := by simp [World.cell?, HG.out, hx]
        have cy : wr.cell? ⟨g, J, none⟩ = some (.int .u8 y) := by simp [World.cell?, HG.out, hy]
        have fx : wr.frozen? ⟨g, k, none⟩ = false := by simp [World.frozen?, HG.out]
        have fy : wr.frozen? ⟨g, J, none⟩ = false := by simp [World.frozen?, HG.out]
        have HJ : Hid (J = n - 1 - k) := by unfold Hid; omega
        have hkJ : k < J := by omega
        have hJn : J < n := by omega
        have HX := Lib.hid hx
        have HY := Lib.hid hy
        clear hx hy hJ
        have HS := Lib.hid hsz
        have HC := Lib.hid hcs
        clear hsz hcs
        go_wp2_with fail
        go_region
        go_wp2_with fail
        go_roundw
        case rel =>
          have hj := HJ.out
          exact ⟨k + 1, _, by go_num, by rw [hj]; go_num, by omega, blk_set (blk_set HG.out k _) J _, by
            have := half_step HH.out (by have := HC.out; omega) hlt HX.out (hj ▸ HY.out)
            rw [hj]; exact this, ((HE.out.setCell ⟨g, k, none⟩ _ (fun _ => rfl)).setCell ⟨g, J, none⟩ _ (fun _ => rfl)).drew⟩
        case measure => simp [intOf]; omega
      · go_wp2_with fail
        go_end0
        have hend := half_end HH.out (by omega) (by omega)
        rw [HT.out] at hend
        exact ⟨rfl, ⟨by simp [h.1], .inr ⟨g, cap, cur', rfl, Nat.zero_le _, HG.out, hnc, by unfold maxLen; omega, by omega, by rw [Nat.mul_one]; exact hend⟩⟩, HE.out.mono (fun i _ e => by simp [Value.ownBlock, e])⟩

theorem orM_fin : ∀ x : Fin 128, bits BinOp.or IntKind.i64 (x.val : Int) 128 % 256 = ((x.val + 128 : Nat) : Int) := by decide +kernel
theorem orM (m : Nat) : bits BinOp.or IntKind.i64 ((m : Int) % 128) 128 % 256 = ((m % 128 + 128 : Nat) : Int) := orM_fin ⟨m % 128, by omega⟩

set_option maxRecDepth 20000 in
theorem count_ok (p : Nat) (l : List UInt8) (F : Nat → Prop) (n : Nat) (hn : n ≤ 9007199254740991) (w : World) (hw : Writer w p l F) (hb : l.length + 10 ≤ big) :
    Calls Tryd.prog 55 #[.pointer (some ⟨p, 0, none⟩), .int .i64 (n : Int)] w (Wrote w p (l ++ countB n) F) := by
  go_enter Tryd.func55, Tryd.ntmps55
  go_wp2_with fail
  go_loopw [1, 5] (fun a v wr => ∃ (m j k : Nat) (bs : List UInt8), a = .int .i64 (m : Int) ∧ m < 128 ^ j ∧ j ≤ 9 ∧ Own wr 5 1 v k (bs.map byt) ∧ k + j = 10 ∧ bs ++ cntTail j m = grpL n :: cntTail 9 (n / 128) ∧ Ext nob w wr ∧ (∀ k, v.ownBlock = some k → w.heap.size ≤ k)) (fun a _ _ => (intOf a).toNat)
  case atStart =>
    refine ⟨n / 128, 9, 1, [grpL n], by go_num, by omega, by omega, ?_, by omega, rfl, (Ext.refl _ w).alloc _, by simp [Value.ownBlock]⟩
    have e : ((n : Int) % 128) = ((grpL n).toNat : Int) := by rw [grpL_toNat]; omega
    rw [e]
    exact own_new w 5 _
  case round =>
    obtain ⟨m, j, k, bs, rfl, hm, hj, hown, hkj, hbs, he, hv⟩ := hrel
    have HO := Lib.hid hown
    have HB := Lib.hid hbs
    have HE := Lib.hid he
    have HV := Lib.hid hv
    have HM := Lib.hid hm
    have HK := Lib.hid hkj
    clear hown hbs he hv hm hkj
    by_cases h0 : 0 < m
    · go_wp2_with (at_builtin; refine app_bytes rfl (.tmp 24) (.tmp 29) rfl u5 k (bs.map byt) rfl ?c1 _ 1 1 [grpM m] rfl ?c2 ?c3 ?c4)
      case c1 => exact HO.out.alloc _
      case c2 => exact bytes_new _ _ _ _ (by rw [grpM_toNat]; exact orM m)
      case c3 => have := HK.out; omega
      case c4 =>
        intro v' w1 h1 h2 h3
        have HX : Hid (Ext nob w w1) := (HE.out.alloc _).trans h2 (fun i hi h => by have := HV.out i h; omega)
        have H1 := Lib.hid h1
        have H3 : Hid (∀ k, v'.ownBlock = some k → w.heap.size ≤ k) := fun i h => by
          rcases h3 i h with h | h
          · exact HV.out i h
          · have := HE.out.size; omega
        clear h1 h2 h3
        go_wp2_with fail
        go_roundw
        case rel =>
          have hm := HM.out
          match j, hj, HB, HK, HM with
          | 0, _, _, _, HM => simp at hm; omega
          | j + 1, hj, HB, HK, HM =>
            refine ⟨m / 128, j, k + 1, bs ++ [grpM m], by go_num, ?_, by omega, by rw [List.map_append]; exact H1.out, by have := HK.out; omega, ?_, HX.out, H3.out⟩
            · rw [Nat.div_lt_iff_lt_mul (by decide)]; rw [Nat.pow_succ] at hm; exact hm
            · rw [← HB.out, List.append_assoc]
              congr 1
              rw [cntTail, if_neg (by omega)]; rfl
        case measure => simp [intOf]; omega
    · have hm0 : m = 0 := by omega
      subst hm0
      have hbs : bs = grpL n :: cntTail 9 (n / 128) := by rw [← HB.out]; cases j <;> simp [cntTail]
      have HBS := Lib.hid hbs
      clear hbs
      go_wp2_with fail
      refine (reverse_ok u5 k (bs.map byt) wr HO.out (fun u hu => by obtain ⟨b, _, rfl⟩ := List.mem_map.1 hu; exact ⟨_, rfl⟩)).mono ?_
      rintro e w1 ⟨rfl, g1, g2⟩
      obtain ⟨ao', cap', rfl, r1, -, -, r2⟩ := Own.shape g1
      have E1 : Ext nob w w1 := HE.out.trans g2 (fun i hi h => by have := HV.out i h; omega)
      have HW := hw.ext E1 (fun k _ h => h)
      have hr : (bs.map byt).reverse = (countB n).map byt := by rw [← List.map_reverse, HBS.out]; rfl
      rw [hr] at r1 g1
      have hlen := g1.1
      simp only [List.length_map, Nat.mul_one] at hlen
      have HBy : Hid (Bytes w1 ao' k (countB n)) := ⟨hlen, r1⟩
      have HN : Hid (∀ k, inA ao' k → k ≠ p) := fun k hk e => by
        have := HV.out k (r2 k hk); have := hw.lt; omega
      have hk10 := countB_len n
      have HL := Lib.hid hlen
      have HZ := Lib.hid E1.size
      clear g1 g2 r1 r2 hr hlen
      go_wp2_with fail
      refine (put_ok p l F ao' k cap' (countB n) w1 HW HBy.out HN.out (by have := HL.out; omega)).mono ?_
      rintro e w2 ⟨rfl, F', g1, g2, g3⟩
      go_wp2_with fail
      go_ret
      exact ⟨rfl, F', g1, E1.nob.trans' g2, fun k hk => (g3 k hk).imp id (fun h => by have := HZ.out; omega)⟩
end Go.Proofs.YtfgfhfmhadondaaDoor
