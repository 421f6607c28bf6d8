/- num: Reader, and what the rest of Writer does. -/
import Derived.Test.YtfgfhfmhadondaaDoorNum
import Derived.Lib.LazyBuf
import Derived.WalkMore
namespace Go.Proofs.YtfgfhfmhadondaaDoor
open Go.RowKit
set_option maxHeartbeats 400000

/-- What slices.Clone of bytes leaves. -/
def Cloned (w : World) (n : Nat) (l : List UInt8) (e : Ending) (w' : World) : Prop :=
  ∃ v, e = .returned v ∧ Own w' 5 1 v n (l.map byt) ∧ Ext nob w w' ∧ (∀ k, v.ownBlock = some k → w.heap.size ≤ k)

set_option maxRecDepth 20000 in
theorem clone_ok (ao : Option Addr) (n c : Nat) (l : List UInt8) (w : World) (hb : Bytes w ao n l) (hn : n ≤ big) :
    Calls Tryd.prog 114 #[.slice ao n c] w (Cloned w n l) := by
  have hq := fun w => Lib.run_eql_slice_nil (P := Tryd.prog) w 23 5 ao n c 0 0 Tryd.underlying23
  cases ao with
  | none =>
    have hn0 : n = 0 := by
      rcases Nat.eq_zero_or_pos n with h | h
      · exact h
      · obtain ⟨g, o, e⟩ := hb.addr h; cases e
    subst hn0
    have hl : l = [] := List.eq_nil_of_length_eq_zero hb.1
    subst hl
    go_enter Tryd.func114, Tryd.ntmps114
    go_wp2_with fail
    go_ret
    exact ⟨_, rfl, World.ownsRow_nil _ _ _ _, Ext.refl _ _, by simp [Value.ownBlock]⟩
  | some a =>
    have HB := Lib.hid hb
    clear hb
    go_enter Tryd.func114, Tryd.ntmps114
    go_wp2_with (at_builtin; refine app_bytes rfl (.tmp 5) (.tmp 6) rfl _ 0 [] rfl ?c1 (some a) n c l rfl ?c2 ?c3 ?c4)
    case c1 => exact own_zero _ _ _
    case c2 => exact HB.out.ext ((Ext.refl nob w).alloc _) (fun _ _ h => h)
    case c3 => unfold big at hn; omega
    case c4 =>
      intro v' w1 h1 h2 h3
      have E1 : Ext nob w w1 := ((Ext.refl nob w).alloc _).trans h2 (fun i hi h => by simp [Value.ownBlock] at h; omega)
      have H3 : Hid (∀ k, v'.ownBlock = some k → w.heap.size ≤ k) := fun k hk => by
        rcases h3 k hk with h | h
        · simp [Value.ownBlock] at h; omega
        · omega
      have H1 := Lib.hid h1
      clear h1 h2 h3
      go_wp2_with fail
      go_ret
      exact ⟨_, rfl, H1.out, E1, H3.out⟩

/-- A reader at block p, in the state s; its blocks are in F. -/
def Reader (w : World) (p : Nat) (s : RSt) (F : Nat → Prop) : Prop :=
  ∃ ao n c, w.heap[p]? = some (.cells #[.slice ao n c, .int .i64 (s.2 : Int)] 148 (0, 0)) ∧ Bytes w ao n s.1 ∧ n ≤ c ∧ s.ok ∧ F p ∧ (∀ k, inA ao k → F k ∧ k ≠ p) ∧ (∀ k, F k → k < w.heap.size) ∧ n ≤ big

theorem Reader.ext {w w' : World} {p : Nat} {s : RSt} {F G : Nat → Prop} (h : Reader w p s F) (e : Ext G w w') (hd : ∀ k, F k → ¬ G k) : Reader w' p s F := by
  obtain ⟨ao, n, c, h1, h2, h3, h4, h5, h6, h7, h8⟩ := h
  exact ⟨ao, n, c, e.blk h1 (hd p h5), h2.ext e (fun k hk => hd k (h6 k hk).1), h3, h4, h5, h6, fun k hk => Nat.lt_of_lt_of_le (h7 k hk) e.size, h8⟩
theorem Reader.lt {w : World} {p : Nat} {s : RSt} {F : Nat → Prop} (h : Reader w p s F) : p < w.heap.size := by
  obtain ⟨ao, n, c, h1, _⟩ := h
  exact blk_lt h1
theorem Reader.mem {w : World} {p : Nat} {s : RSt} {F : Nat → Prop} (h : Reader w p s F) : F p := by
  obtain ⟨ao, n, c, h1, _, _, _, h5, _⟩ := h
  exact h5

theorem err_ok (p : Nat) (s : RSt) (F : Nat → Prop) (w : World) (hr : Reader w p s F) :
    Calls Tryd.prog 65 #[.pointer (some ⟨p, 0, none⟩)] w fun e w' => e = .returned (.int .i64 (s.2 : Int)) ∧ w = w' := by
  obtain ⟨ao, n, c, h1, _⟩ := hr
  obtain ⟨c0, c1, -, -, hlt⟩ := cells2 h1
  clear h1
  go_enter Tryd.func65, Tryd.ntmps65
  go_wp2_with fail
  go_ret
  exact ⟨rfl, rfl⟩

theorem left_ok (p : Nat) (s : RSt) (F : Nat → Prop) (w : World) (hr : Reader w p s F) :
    Calls Tryd.prog 117 #[.pointer (some ⟨p, 0, none⟩)] w fun e w' => e = .returned (.int .i64 (s.1.length : Int)) ∧ w = w' := by
  obtain ⟨ao, n, c, h1, h2, _⟩ := hr
  obtain ⟨c0, c1, -, -, hlt⟩ := cells2 h1
  have hn := Lib.hid h2.1
  clear h1 h2
  go_enter Tryd.func117, Tryd.ntmps117
  go_wp2_with fail
  go_ret
  rw [hn.out]
  exact ⟨rfl, rfl⟩

set_option maxRecDepth 20000 in
theorem fail_ok (p : Nat) (s : RSt) (F : Nat → Prop) (k : Nat) (w : World) (hr : Reader w p s F) :
    Calls Tryd.prog 116 #[.pointer (some ⟨p, 0, none⟩), .int .i64 (k : Int)] w fun e w' => e = .returned (.int .i64 0) ∧ Reader w' p (rFail k s) F ∧ Ext (fun k => k = p) w w' := by
  obtain ⟨ao, n, c, h1, h2, h3, h4, h5, h6, h7, h8⟩ := hr
  obtain ⟨c0, c1, f0, f1, hlt⟩ := cells2 h1
  have H1 := Lib.hid h1
  have H7 := Lib.hid h7
  clear h1 h2 h3 h4 h6 h7
  go_enter Tryd.func116, Tryd.ntmps116
  go_wp2_with (go_at_call 136; refine (cmpOr (s.2 : Int) (k : Int) _ _ (by simp) (by simp)).mono ?_; rintro e w' ⟨rfl, rfl⟩)
  · have h : s.2 = 0 := by assumption
    go_ret
    refine ⟨rfl, ⟨none, 0, 0, ?_, Bytes.nil _ _, Nat.le_refl _, fun _ => rfl, h5, fun k hk => ?_, fun k hk => ?_, Nat.zero_le _⟩, ?_⟩
    · refine (blk_alloc (blk_set (blk_set H1.out 0 _) 1 _) _).trans ?_
      simp [rFail, h]
    · obtain ⟨a, ha, _⟩ := hk; cases ha
    · have := H7.out k hk; simp; omega
    · exact (((Ext.refl (fun k => k = p) w).setCell ⟨p, 0, none⟩ _ (fun _ => rfl)).setCell ⟨p, 1, none⟩ _ (fun _ => rfl)).alloc _
  · have h : ¬ s.2 = 0 := by assumption
    go_ret
    refine ⟨rfl, ⟨none, 0, 0, ?_, Bytes.nil _ _, Nat.le_refl _, fun _ => rfl, h5, fun k hk => ?_, fun k hk => ?_, Nat.zero_le _⟩, ?_⟩
    · refine (blk_alloc (blk_set (blk_set H1.out 0 _) 1 _) _).trans ?_
      simp [rFail, h]
    · obtain ⟨a, ha, _⟩ := hk; cases ha
    · have := H7.out k hk; simp; omega
    · exact (((Ext.refl (fun k => k = p) w).setCell ⟨p, 0, none⟩ _ (fun _ => rfl)).setCell ⟨p, 1, none⟩ _ (fun _ => rfl)).alloc _

/-- What reading bytes leaves: the bytes in new memory, the reader in its next state. -/
def Got (w : World) (p : Nat) (l : List UInt8) (s : RSt) (F : Nat → Prop) (e : Ending) (w' : World) : Prop :=
  ∃ v n, e = .returned v ∧ Own w' 5 1 v n (l.map byt) ∧ (∀ k, v.ownBlock = some k → w.heap.size ≤ k) ∧ Reader w' p s F ∧ Ext (fun k => k = p) w w'

theorem bytes_size {s : RSt} : s.1.length = s.1.length := rfl

set_option maxRecDepth 20000 in
theorem rraw_ok (p : Nat) (s : RSt) (F : Nat → Prop) (k : Nat) (w : World) (hr : Reader w p s F) :
    Calls Tryd.prog 88 #[.pointer (some ⟨p, 0, none⟩), .int .i64 (k : Int)] w (Got w p (rRaw k s).1 (rRaw k s).2 F) := by
  by_cases h0 : s.2 = 0
  · have hb0 : (((s.2 : Nat) : Int) != 0) = false := by simp [h0]
    by_cases hk : s.1.length < k
    · have HR : Hid ((rRaw k s).1 = [] ∧ (rRaw k s).2 = rFail 3 s) := by simp [Hid, rRaw, rFail, h0, hk]
      clear h0
      go_enter Tryd.func88, Tryd.ntmps88
      go_wp2_with (first | (go_at_call 65; refine (err_ok p s F _ hr).mono ?_; rintro e w' ⟨rfl, rfl⟩) | (go_at_call 117; refine (left_ok p s F _ hr).mono ?_; rintro e w' ⟨rfl, rfl⟩) | (go_at_call 116; refine (fail_ok p s F 3 _ hr).mono ?_; rintro e w' ⟨rfl, hr', he'⟩))
      go_ret
      obtain ⟨r1, r2⟩ := HR.out
      rw [r1, r2]
      exact ⟨_, 0, rfl, World.ownsRow_nil _ _ _ _, by simp [Value.ownBlock], hr', he'⟩
    · have HR : Hid ((rRaw k s).1 = s.1.take k ∧ (rRaw k s).2 = (s.1.drop k, 0)) := by simp [Hid, rRaw, h0, hk]
      obtain ⟨ao, n, c, h1, h2, h3, h4, h5, h6, h7, h8⟩ := id hr
      obtain ⟨c0, c1, f0, f1, hlt⟩ := cells2 h1
      have hkn : k ≤ n := by rw [← h2.1]; omega
      have HO := Lib.hid h0
      have H1 := Lib.hid h1
      have H2 := Lib.hid h2
      have H4 := Lib.hid h4
      have H6 := Lib.hid h6
      have H7 := Lib.hid h7
      clear h0 h1 h2 h4 h6 h7
      go_enter Tryd.func88, Tryd.ntmps88
      go_wp2_with (first | (go_at_call 65; refine (err_ok p s F _ hr).mono ?_; rintro e w' ⟨rfl, rfl⟩) | (go_at_call 117; refine (left_ok p s F _ hr).mono ?_; rintro e w' ⟨rfl, rfl⟩))
      refine (clone_ok ao k c (s.1.take k) w (H2.out.take k hkn) (by omega)).mono ?_
      rintro e w1 ⟨v, rfl, g1, g2, g3⟩
      have hp1 := g2.blk H1.out (fun h => h)
      obtain ⟨d0, d1, e0, e1, hl1⟩ := cells2 hp1
      have G1 := Lib.hid g1
      have G2 := Lib.hid g2
      have G3 := Lib.hid g3
      have HP1 := Lib.hid hp1
      clear g1 g2 g3 hp1 c0 c1 f0 f1
      have E2 : ∀ x, Ext (fun k => k = p) w (w1.setCell ⟨p, 0, none⟩ x) := fun x => G2.out.nob.setCell ⟨p, 0, none⟩ x (fun _ => rfl)
      have hne : v.ownBlock ≠ some p := fun h => by have := G3.out p h; omega
      have HV : Hid (∀ x, Own (w1.setCell ⟨p, 0, none⟩ x) 5 1 v k ((s.1.take k).map byt)) := fun x => G1.out.ext ((Ext.refl (fun k => k = p) w1).setCell ⟨p, 0, none⟩ x (fun _ => rfl)) (fun i hi e => hne (e ▸ hi))
      by_cases hc : c = k
      · subst hc
        go_wp2_with fail
        go_ret
        obtain ⟨r1, r2⟩ := HR.out
        have hnc : n = c := by omega
        subst hnc
        rw [r1, r2]
        refine ⟨v, n, rfl, HV.out _, G3.out, ⟨ao, n - n, n - n, ?_, ?_, Nat.le_refl _, fun h => by simp at h, h5, H6.out, fun i hi => ?_, by omega⟩, E2 _⟩
        · refine (blk_set HP1.out 0 _).trans ?_
          simp [HO.out]
        · exact ((H2.out.drop n (fun a h _ => by omega)).ext G2.out (fun _ _ h => h)).ext ((Ext.refl (fun k => k = p) w1).setCell ⟨p, 0, none⟩ _ (fun _ => rfl)) (fun i hi => (H6.out i hi).2)
        · have := H7.out i hi; have := G2.out.size; simp; omega
      · go_wp2_with fail
        go_ret
        obtain ⟨r1, r2⟩ := HR.out
        rw [r1, r2]
        refine ⟨v, k, rfl, HV.out _, G3.out, ⟨ao.map (·.add k), n - k, c - k, ?_, ?_, by omega, fun h => by simp at h, h5, fun i hi => ?_, fun i hi => ?_, by omega⟩, E2 _⟩
        · refine (blk_set HP1.out 0 _).trans ?_
          simp [HO.out]
        · refine ((H2.out.drop k (fun a h e => by rw [e]; rfl)).ext G2.out (fun _ _ h => h)).ext ((Ext.refl (fun k => k = p) w1).setCell ⟨p, 0, none⟩ _ (fun _ => rfl)) (fun i hi => (H6.out i (in_map hi)).2)
        · exact H6.out i (in_map hi)
        · have := H7.out i hi; have := G2.out.size; simp; omega
  · have hb0 : (((s.2 : Nat) : Int) != 0) = true := by simpa using h0
    have HR : Hid ((rRaw k s).1 = [] ∧ (rRaw k s).2 = s) := by simp [Hid, rRaw, h0]
    clear h0
    go_enter Tryd.func88, Tryd.ntmps88
    go_wp2_with (go_at_call 65; refine (err_ok p s F _ hr).mono ?_; rintro e w' ⟨rfl, rfl⟩)
    go_ret
    obtain ⟨r1, r2⟩ := HR.out
    rw [r1, r2]
    exact ⟨_, 0, rfl, World.ownsRow_nil _ _ _ _, by simp [Value.ownBlock], hr, Ext.refl _ _⟩

theorem or0_fin : ∀ x : Fin 256, bits BinOp.or IntKind.u64 0 (x.val : Int) = (x.val : Int) := by decide +kernel
theorem or0 (b : UInt8) : bits BinOp.or IntKind.u64 0 (b.toNat : Int) = (b.toNat : Int) := or0_fin ⟨b.toNat, UInt8.toNat_lt b⟩

set_option maxRecDepth 20000 in
theorem num1r_ok (p : Nat) (s : RSt) (F : Nat → Prop) (w : World) (hr : Reader w p s F) :
    Calls Tryd.prog 63 #[.pointer (some ⟨p, 0, none⟩), .int .i64 1] w fun e w' => e = .returned (.int .i64 ((rNum1 s).1 : Int)) ∧ Reader w' p (rNum1 s).2 F ∧ Ext (fun k => k = p) w w' := by
  have HC : (rNum1 s).2 = (rRaw 1 s).2 ∧ (((rRaw 1 s).1 = [] ∧ (rNum1 s).1 = 0) ∨ ∃ b : UInt8, (rRaw 1 s).1 = [b] ∧ (rNum1 s).1 = b.toNat) := by
    unfold rNum1 rRaw
    by_cases h : s.2 = 0
    · cases h1 : s.1 with
      | nil => simp [h]
      | cons b r => simp [h]
    · simp [h]
  rcases HC with ⟨r0, ⟨r1, r2⟩ | ⟨b, r1, r2⟩⟩ <;> rw [r2, r0] <;> have HR1 := Lib.hid r1 <;> clear r1 r2 r0
  · go_enter Tryd.func63, Tryd.ntmps63
    go_wp2_with (first | (go_at_call 65; refine (err_ok p s F _ hr).mono ?_; rintro e w' ⟨rfl, rfl⟩) | (go_at_call 113; refine (wide1 _).mono ?_; rintro e w' ⟨rfl, rfl⟩))
    all_goals
      refine (rraw_ok p s F 1 _ hr).mono ?_
      rintro e w1 ⟨v, n, rfl, g1, g2, g3, g4⟩
      rw [HR1.out] at g1
      have HR := Lib.hid g3
      have HE := Lib.hid g4
      have hlen := g1.1
      simp only [List.length_map, List.length_nil, Nat.mul_one] at hlen
      subst hlen
      obtain ⟨ao, cap, rfl, q1, -, -, -⟩ := Own.shape g1
      clear g1 g2 g3 g4 q1
      go_wp2_with fail
      refine wp_loop_rounds 1 ?_
      rw [rounds_succ]
      go_wp2_with fail
      go_ret
      exact ⟨rfl, HR.out, HE.out⟩
  · go_enter Tryd.func63, Tryd.ntmps63
    go_wp2_with (first | (go_at_call 65; refine (err_ok p s F _ hr).mono ?_; rintro e w' ⟨rfl, rfl⟩) | (go_at_call 113; refine (wide1 _).mono ?_; rintro e w' ⟨rfl, rfl⟩))
    all_goals
      refine (rraw_ok p s F 1 _ hr).mono ?_
      rintro e w1 ⟨v, n, rfl, g1, g2, g3, g4⟩
      rw [HR1.out] at g1
      have HR := Lib.hid g3
      have HE := Lib.hid g4
      have hlen := g1.1
      simp only [List.length_map, List.length_cons, List.length_nil, Nat.mul_one, Nat.zero_add] at hlen
      subst hlen
      obtain ⟨ao, cap, rfl, q1, -, -, -⟩ := Own.shape g1
      obtain ⟨g, o, rfl⟩ := q1.addr (by simp)
      have hc := q1.cell 0 (byt b) (by simp)
      have hb : b.toNat < 256 := UInt8.toNat_lt b
      have hor := or0 b
      rw [Nat.add_zero] at hc
      clear g1 g2 g3 g4 q1
      go_wp2_with fail
      refine wp_loop_rounds 2 ?_
      rw [rounds_succ]
      go_wp2_with fail
      rw [rounds_succ]
      go_wp2_with fail
      go_ret
      exact ⟨rfl, HR.out, HE.out⟩

theorem orJoin (x y : Int) (hx : 0 ≤ x) (hx1 : x < 72057594037927936) (hy : 0 ≤ y) (hy1 : y < 128) : bits BinOp.or IntKind.i64 (x * 128) y = x * 128 + y :=
  bits_join .i64 63 (by decide) (fun n h0 h1 => by rw [IntKind.wrap_i64]; omega) 7 (x * 128) y (by omega) (by omega) (by omega) hy (by omega) (by omega)

theorem pow128 {k : Nat} (h : k ≤ 7) : 128 ^ k ≤ 562949953421312 := Nat.le_trans (Nat.pow_le_pow_right (by decide) h) (by decide)

set_option maxRecDepth 20000 in
theorem rcount_ok (p : Nat) (s : RSt) (F : Nat → Prop) (most : Int) (w : World) (hr : Reader w p s F) :
    Calls Tryd.prog 61 #[.pointer (some ⟨p, 0, none⟩), .int .i64 most] w fun e w' => e = .returned (.int .i64 ((rCount most s).1 : Int)) ∧ Reader w' p (rCount most s).2 F ∧ Ext (fun k => k = p) w w' := by
  by_cases h0 : s.2 = 0
  · have HS : Hid (rCount most s = rCnt most 8 true 0 s.1) := by simp [Hid, rCount, h0]
    have hr' : Hid (Reader w p (s.1, 0) F) := by have := hr; rw [← h0]; exact this
    clear h0 hr
    go_enter Tryd.func61, Tryd.ntmps61
    go_wp2_with fail
    go_step3
    go_wp2_with fail
    go_step3
    go_wp2_with fail
    go_loopw [4, 8] (fun n4 i wr => ∃ (N k : Nat) (l : List UInt8), n4 = .int .i64 (N : Int) ∧ i = .int .i64 (k : Int) ∧ k ≤ 8 ∧ N < 128 ^ k ∧ Reader wr p (l, 0) F ∧ rCount most s = rCnt most (8 - k) (decide (k = 0)) N l ∧ Ext (fun k => k = p) w wr) (fun _ i _ => 8 - (intOf i).toNat)
    case atStart => exact ⟨0, 0, s.1, rfl, rfl, by omega, by simp, hr'.out, HS.out, Ext.refl _ _⟩
    case round =>
      obtain ⟨N, k, l, rfl, rfl, hk, hN, hR, hC, hE⟩ := hrel
      have HR := Lib.hid hR
      have HE := Lib.hid hE
      by_cases hk8 : k < 8
      · have h7 := pow128 (k := k) (by omega)
        have hNb : N < 562949953421312 := by omega
        have HC : Hid (rCount most s = rCnt most ((7 - k) + 1) (decide (k = 0)) N l) := by rw [hC]; congr 1; omega
        have HN := Lib.hid hN
        clear h7 hN hC hR hE
        cases l with
        | nil =>
          go_wp2_with fail
          refine (rraw_ok p ([], 0) F 1 _ HR.out).mono ?_
          rintro e w1 ⟨v, n, rfl, g1, g2, g3, g4⟩
          have hlen : n = 0 := by have := g1.1; simp [rRaw] at this; omega
          subst hlen
          obtain ⟨ao, cap, rfl, -, -, -, -⟩ := Own.shape g1
          have G3 := Lib.hid g3
          have G4 := Lib.hid g4
          clear g1 g2 g3 g4
          go_wp2_with fail
          rw [Exit.noGoto_ret]
          go_ret
          rw [HC.out]
          exact ⟨rfl, G3.out, HE.out.trans' G4.out⟩
        | cons b r =>
          go_wp2_with fail
          refine (rraw_ok p (b :: r, 0) F 1 _ HR.out).mono ?_
          rintro e w1 ⟨v, n, rfl, g1, g2, g3, g4⟩
          have e1 : (rRaw 1 (b :: r, 0)).1 = [b] := by simp [rRaw]
          have e2 : (rRaw 1 (b :: r, 0)).2 = (r, 0) := by simp [rRaw]
          rw [e1] at g1
          rw [e2] at g3
          have hlen : n = 1 := by have := g1.1; simp at this; omega
          subst hlen
          obtain ⟨ao, cap, rfl, q1, -, -, -⟩ := Own.shape g1
          obtain ⟨g, o, rfl⟩ := q1.addr (by simp)
          have hc := q1.cell 0 (byt b) (by simp)
          rw [Nat.add_zero] at hc
          have hb : b.toNat < 256 := UInt8.toNat_lt b
          have hor := orJoin (N : Int) ((b.toNat : Int) % 128) (by omega) (by omega) (by omega) (by omega)
          have G3 := Lib.hid g3
          have G4 := Lib.hid (HE.out.trans' g4)
          have hbb : 0 ≤ (b.toNat : Int) := by omega
          clear g1 g2 g3 g4 e1 e2 q1
          go_wp2_with fail
          all_goals first
            | (-- one more group
               have h128 : 128 ≤ b.toNat := by omega
               have nf : ¬(decide (k = 0) = true ∧ b.toNat = 128) := by
                 rintro ⟨h1, h2⟩
                 simp at h1
                 first | omega | (have h3 : ((b.toNat : Int) == 128) = false := by assumption
                                  simp [h2] at h3)
               go_roundw
               case rel =>
                 have hn := HN.out
                 refine ⟨N * 128 + b.toNat % 128, k + 1, r, by go_num, by first | go_num | (simp; omega), by omega, by rw [Nat.pow_succ]; omega, G3.out, ?_, G4.out⟩
                 rw [HC.out, rCnt, if_neg nf, if_pos h128]
                 congr 1; simp
               case measure => simp [intOf]; omega)
            | (-- 80 at the head
               have hk0 : k = 0 := by omega
               have h3 : ((b.toNat : Int) == 128) = true := by assumption
               have h4 : b.toNat = 128 := by have := h3; simp at this; omega
               refine (fail_ok p (r, 0) F 4 w1 G3.out).mono ?_
               rintro e w2 ⟨rfl, q1, q2⟩
               have Q1 := Lib.hid q1
               have Q2 := Lib.hid q2
               clear q1 q2
               go_wp2_with fail
               rw [Exit.noGoto_ret]
               go_ret
               rw [HC.out, rCnt, if_pos ⟨by simpa using hk0, h4⟩]
               exact ⟨rfl, Q1.out, G4.out.trans' Q2.out⟩)
            | (-- a fault at the end
               have h128 : ¬ 128 ≤ b.toNat := by omega
               have nf : ¬(decide (k = 0) = true ∧ b.toNat = 128) := by rintro ⟨_, h2⟩; omega
               have hbig : 9007199254740991 < N * 128 + b.toNat % 128 := by omega
               refine (fail_ok p (r, 0) F 9 w1 G3.out).mono ?_
               rintro e w2 ⟨rfl, q1, q2⟩
               have Q1 := Lib.hid q1
               have Q2 := Lib.hid q2
               clear q1 q2
               go_wp2_with fail
               rw [Exit.noGoto_ret]
               go_ret
               rw [HC.out, rCnt, if_neg nf, if_neg h128, if_pos hbig]
               exact ⟨rfl, Q1.out, G4.out.trans' Q2.out⟩)
            | (have h128 : ¬ 128 ≤ b.toNat := by omega
               have nf : ¬(decide (k = 0) = true ∧ b.toNat = 128) := by rintro ⟨_, h2⟩; omega
               have hbig : ¬ 9007199254740991 < N * 128 + b.toNat % 128 := by omega
               have hlim : most < ((N * 128 + b.toNat % 128 : Nat) : Int) := by omega
               refine (fail_ok p (r, 0) F 5 w1 G3.out).mono ?_
               rintro e w2 ⟨rfl, q1, q2⟩
               have Q1 := Lib.hid q1
               have Q2 := Lib.hid q2
               clear q1 q2
               go_wp2_with fail
               rw [Exit.noGoto_ret]
               go_ret
               rw [HC.out, rCnt, if_neg nf, if_neg h128, if_neg hbig, if_pos hlim]
               exact ⟨rfl, Q1.out, G4.out.trans' Q2.out⟩)
            | (have h128 : ¬ 128 ≤ b.toNat := by omega
               have nf : ¬(decide (k = 0) = true ∧ b.toNat = 128) := by rintro ⟨_, h2⟩; omega
               have hbig : ¬ 9007199254740991 < N * 128 + b.toNat % 128 := by omega
               have hlim : ¬ most < ((N * 128 + b.toNat % 128 : Nat) : Int) := by omega
               rw [Exit.noGoto_ret]
               go_ret
               rw [HC.out, rCnt, if_neg nf, if_neg h128, if_neg hbig, if_neg hlim]
               exact ⟨by simp, G3.out, G4.out⟩)
      · have : k = 8 := by omega
        subst this
        have HC := Lib.hid hC
        clear hN hC hR hE
        go_wp2_with fail
        refine (fail_ok p (l, 0) F 4 wr HR.out).mono ?_
        rintro e w2 ⟨rfl, q1, q2⟩
        have Q1 := Lib.hid q1
        have Q2 := Lib.hid q2
        clear q1 q2
        go_wp2_with fail
        rw [Exit.noGoto_ret]
        go_ret
        rw [HC.out]
        exact ⟨rfl, Q1.out, HE.out.trans' Q2.out⟩
  · have HS : Hid (rCount most s = (0, s)) := by simp [Hid, rCount, h0]
    go_enter Tryd.func61, Tryd.ntmps61
    go_wp2_with fail
    go_step3
    go_wp2_with fail
    go_step3
    go_wp2_with fail
    refine wp_loop_rounds 1 ?_
    rw [rounds_succ]
    go_wp2_with fail
    refine (rraw_ok p s F 1 _ hr).mono ?_
    rintro e w1 ⟨v, n, rfl, g1, g2, g3, g4⟩
    have hlen : n = 0 := by have := g1.1; simp [rRaw, h0] at this; omega
    subst hlen
    obtain ⟨ao, cap, rfl, -, -, -, -⟩ := Own.shape g1
    have e2 : (rRaw 1 s).2 = s := by simp [rRaw, h0]
    rw [e2] at g3
    have G3 := Lib.hid g3
    have G4 := Lib.hid g4
    clear g1 g2 g3 g4 e2 h0
    go_wp2_with fail
    rw [Exit.noGoto_ret]
    go_ret
    rw [HS.out]
    exact ⟨rfl, G3.out, G4.out⟩

set_option maxRecDepth 20000 in
theorem rtext_ok (p : Nat) (s : RSt) (F : Nat → Prop) (most : Int) (w : World) (hr : Reader w p s F) :
    Calls Tryd.prog 64 #[.pointer (some ⟨p, 0, none⟩), .int .i64 most] w (Got w p (rText most s).1 (rText most s).2 F) := by
  go_enter Tryd.func64, Tryd.ntmps64
  go_wp2_with fail
  refine (rcount_ok p s F most w hr).mono ?_
  rintro e w1 ⟨rfl, g1, g2⟩
  have G1 := Lib.hid g1
  have G2 := Lib.hid g2
  clear g1 g2
  go_wp2_with fail
  refine (err_ok p _ F w1 G1.out).mono ?_
  rintro e w1 ⟨rfl, rfl⟩
  by_cases h : (rCount most s).2.2 = 0
  · have HT : Hid (rText most s = rRaw (rCount most s).1 (rCount most s).2) := by simp [Hid, rText, h]
    have hb : ((((rCount most s).2.2 : Nat) : Int) == 0) = true := by simp [h]
    clear h
    go_wp2_with fail
    refine (rraw_ok p _ F _ w1 G1.out).mono ?_
    rintro e w2 ⟨v, n, rfl, q1, q2, q3, q4⟩
    have Q1 := Lib.hid q1
    have Q2 := Lib.hid q2
    have Q3 := Lib.hid q3
    have Q4 := Lib.hid q4
    clear q1 q2 q3 q4
    go_wp2_with fail
    go_ret
    rw [HT.out]
    exact ⟨v, n, rfl, Q1.out, fun k hk => Nat.le_trans G2.out.size (Q2.out k hk), Q3.out, G2.out.trans' Q4.out⟩
  · have HT : Hid (rText most s = ([], (rCount most s).2)) := by simp [Hid, rText, h]
    have hb : ((((rCount most s).2.2 : Nat) : Int) == 0) = false := by simpa using h
    clear h
    go_wp2_with fail
    go_ret
    rw [HT.out]
    exact ⟨_, 0, rfl, World.ownsRow_nil _ _ _ _, by simp [Value.ownBlock], G1.out, G2.out⟩

set_option maxRecDepth 20000 in
theorem end_ok (p : Nat) (s : RSt) (F : Nat → Prop) (w : World) (hr : Reader w p s F) :
    Calls Tryd.prog 66 #[.pointer (some ⟨p, 0, none⟩)] w fun e w' => e = .returned (.int .i64 (rEnd s : Int)) ∧ w = w' := by
  go_enter Tryd.func66, Tryd.ntmps66
  go_wp2_with (first | (go_at_call 65; refine (err_ok p s F _ hr).mono ?_; rintro e w' ⟨rfl, rfl⟩) | (go_at_call 117; refine (left_ok p s F _ hr).mono ?_; rintro e w' ⟨rfl, rfl⟩))
  all_goals go_ret
  · have h1 : s.2 = 0 := by assumption
    have h2 : 0 < s.1.length := by assumption
    have h3 : s.1 ≠ [] := by intro e; simp [e] at h2
    refine ⟨?_, rfl⟩
    simp [rEnd, h1, h3]
  · have h1 : s.2 = 0 := by assumption
    have h3 : s.1 = [] := by first | assumption | (apply List.eq_nil_of_length_eq_zero; omega)
    refine ⟨?_, rfl⟩
    simp [rEnd, h1, h3]
  · have h1 : ¬ s.2 = 0 := by assumption
    refine ⟨?_, rfl⟩
    simp [rEnd, h1]

set_option maxRecDepth 20000 in
theorem read_ok (ao : Option Addr) (n c : Nat) (l : List UInt8) (w : World) (hb : Bytes w ao n l) (hn : n ≤ big) :
    Calls Tryd.prog 60 #[.slice ao n c] w fun e w' => ∃ p F, e = .returned (.pointer (some ⟨p, 0, none⟩)) ∧ Reader w' p (l, 0) F ∧ Ext nob w w' ∧ (∀ k, F k → w.heap.size ≤ k) := by
  go_enter Tryd.func60, Tryd.ntmps60
  go_wp2_with fail
  refine (clone_ok ao n c l w hb hn).mono ?_
  rintro e w1 ⟨v, rfl, g1, g2, g3⟩
  obtain ⟨ao', cap, rfl, q1, -, q3, q4⟩ := Own.shape g1
  have G1 := Lib.hid g1
  have G2 := Lib.hid g2
  have G3 := Lib.hid g3
  have Q4 := Lib.hid q4
  have HN := Lib.hid hb.1
  have Q1 := Lib.hid q1
  clear g1 g2 g3 q4 q1 hb
  go_wp2_with fail
  go_ret
  refine ⟨w1.heap.size, fun k => k = w1.heap.size ∨ inA ao' k, rfl, ⟨ao', n, cap, blk_new _ _, ⟨HN.out, Q1.out.ext ((Ext.refl nob w1).alloc _) (fun _ _ h => h)⟩, q3, fun h => absurd rfl h, .inl rfl, fun k hk => ⟨.inr hk, ?_⟩, fun k hk => ?_, hn⟩, G2.out.alloc _, fun k hk => ?_⟩
  · have := G1.out.lt' k (Q4.out k hk); omega
  · simp only [World.size_alloc]
    rcases hk with h | h
    · omega
    · have := G1.out.lt' k (Q4.out k h); omega
  · rcases hk with h | h
    · have := G2.out.size; omega
    · exact G3.out k (Q4.out k h)

set_option maxRecDepth 20000 in
theorem text_ok (p : Nat) (l : List UInt8) (F : Nat → Prop) (ao : Option Addr) (n c : Nat) (b : List UInt8) (w : World) (hw : Writer w p l F) (hb : Bytes w ao n b) (hbF : ∀ k, inA ao k → ¬ F k) (hn : l.length + n + 10 ≤ big) :
    Calls Tryd.prog 57 #[.pointer (some ⟨p, 0, none⟩), .slice ao n c] w (Wrote w p (l ++ (countB n ++ b)) F) := by
  go_enter Tryd.func57, Tryd.ntmps57
  go_wp2_with fail
  refine (count_ok p l F n (by unfold big at hn; omega) w hw (by omega)).mono ?_
  rintro e w1 ⟨rfl, F', g1, g2, g3⟩
  have G1 := Lib.hid g1
  have G2 := Lib.hid g2
  have G3 := Lib.hid g3
  clear g1 g2 g3
  go_wp2_with fail
  have hp : F p := by obtain ⟨_, _, _, _, h, _⟩ := hw; exact h
  refine (raw_ok p _ F' ao n c b w1 G1.out (hb.ext G2.out hbF) (fun k hk e => hbF k hk (e ▸ hp)) (by have := countB_len n; simp; omega)).mono ?_
  rintro e w2 ⟨rfl, F2, q1, q2, q3⟩
  rw [List.append_assoc] at q1
  have Q1 := Lib.hid q1
  have Q2 := Lib.hid q2
  have Q3 := Lib.hid q3
  clear q1 q2 q3
  go_wp2_with fail
  go_ret
  refine ⟨rfl, F2, Q1.out, G2.out.trans Q2.out (fun i hi h => (G3.out i h).resolve_right (by omega)), fun k hk => ?_⟩
  rcases Q3.out k hk with h | h
  · exact G3.out k h
  · exact .inr (Nat.le_trans G2.out.size h)

set_option maxRecDepth 20000 in
theorem wbytes_ok (p : Nat) (l : List UInt8) (F : Nat → Prop) (w : World) (hw : Writer w p l F) (hn : l.length ≤ big) :
    Calls Tryd.prog 58 #[.pointer (some ⟨p, 0, none⟩)] w fun e w' => ∃ v, e = .returned (.tuple #[v, .int .i64 0]) ∧ Own w' 5 1 v l.length (l.map byt) ∧ Ext nob w w' ∧ (∀ k, v.ownBlock = some k → w.heap.size ≤ k) := by
  obtain ⟨sv, N, hp, ho, hF, hsF, hFl⟩ := hw
  have hNl : l.length = N := by simpa using ho.1
  subst hNl
  obtain ⟨ao, cap, rfl, q1, -, -, -⟩ := Own.shape ho
  obtain ⟨c0, c1, -, -, hlt⟩ := cells2 hp
  have HB : Hid (Bytes w ao l.length l) := ⟨rfl, q1⟩
  clear hp ho hF hsF hFl q1
  go_enter Tryd.func58, Tryd.ntmps58
  go_wp2_with fail
  refine (clone_ok ao _ cap l w HB.out hn).mono ?_
  rintro e w1 ⟨v, rfl, g1, g2, g3⟩
  have G1 := Lib.hid g1
  have G2 := Lib.hid g2
  have G3 := Lib.hid g3
  clear g1 g2 g3
  go_wp2_with fail
  go_ret2
  exact ⟨v, rfl, G1.out, G2.out, G3.out⟩
end Go.Proofs.YtfgfhfmhadondaaDoor
