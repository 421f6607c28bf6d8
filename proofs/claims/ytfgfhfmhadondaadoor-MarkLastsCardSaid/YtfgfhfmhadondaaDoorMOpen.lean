/- mark.Open: the walk. -/
import Derived.Test.YtfgfhfmhadondaaDoorMOpenA
import Derived.Deep.DeepCutAuto
namespace Go.Proofs.YtfgfhfmhadondaaDoor
open Go.RowKit Go.Maps Go.Shelf Go.Lib Go.Sort
set_option maxHeartbeats 400000

/-- The count at round i: i = 0 tells the first one. -/
theorem oGo_step {N i : Nat} {first : Bool} {last : List UInt8} {ok : Bool} {D : DataW Unit} {s : RSt} {G : Bool × DataW Unit × RSt} (h : oGo (N - i) first last ok D s = G) (hi : i < N) :
    oGo (N - (i + 1)) false (rEnt s).1.n (ok && decide (0 < (rEnt s).1.v) && (first || decide (last < (rEnt s).1.n))) (putD D (rEnt s).1.n (rEnt s).1.v (rEnt s).1.d) (rEnt s).2 = G := by
  rw [show N - i = (N - (i + 1)) + 1 by omega] at h
  exact h
theorem size_putD_le {D : DataW Unit} (h : Tidy D) (n : List UInt8) (v : Int) (d : List UInt8) : Maps.size (putD D n v d) ≤ Maps.size D + 1 := by
  rw [sizeD_put h]; split <;> omega
theorem cfN_lt (x y : NameS) : decide (cfN x y < 0) = decide (x.1 < y.1) := by
  have := ltN x y
  unfold ltOf at this
  exact this

set_option linter.unusedSimpArgs false in
set_option maxRecDepth 20000 in
set_option maxHeartbeats 4000000 in
theorem mopen_ok (ao : Option Addr) (n c : Nat) (l : List UInt8) (w : World) (hb : Bytes w ao n l) (hn : n ≤ big) :
    Calls Tryd.prog 32 #[.slice ao n c] w fun e w' => (openE l ≠ 0 → e = .returned (.tuple #[.pointer none, .int .i64 (openE l : Int)])) ∧ (openE l = 0 → ∃ p b, e = .returned (.tuple #[.pointer (some ⟨p, 0, none⟩), .int .i64 0]) ∧ MarksAt w' p b (oLife l) (oEpoch l) (oD l) ∧ w.heap.size ≤ p ∧ w.heap.size ≤ b) ∧ Ext nob w w' := by
  have hu60 := Tryd.underlying60
  have hi60z : (Tryd.prog.info? 60).map (·.size) = some (z32.map byt).toArray.size := by kernel_rfl
  have hone60z : (z32.map byt).toArray.all (·.oneCell') = true := all_oneCell_toArray (fun u hu => oneCell_byt _ u hu)
  go_enter Tryd.func32, Tryd.ntmps32
  go_wp2_with fail
  refine (read_ok ao n c l _ hb hn).mono ?_
  rintro e w1 ⟨P, F, rfl, r1, e1, f1⟩
  have R1 := Lib.hid r1
  have E1 := Lib.hid e1
  have FF := Lib.hid f1
  clear r1 e1 f1 hb hn
  go_wp2_with fail
  refine (mnew_ok _).mono ?_
  rintro e w2 ⟨rfl, m2, e2⟩
  obtain ⟨b, hb⟩ : ∃ b, b = w1.heap.size := ⟨_, rfl⟩
  obtain ⟨p, hp⟩ : ∃ p, p = w1.heap.size + 1 := ⟨_, rfl⟩
  rw [← hp, ← hb] at m2
  rw [← hp]
  have M2 := Lib.hid m2
  have HB : Hid (w.heap.size ≤ b ∧ w.heap.size ≤ p ∧ w1.heap.size ≤ b ∧ w1.heap.size ≤ p) := by have := E1.out.size; rw [hb, hp]; exact ⟨by omega, by omega, by omega, by omega⟩
  have R2 : Hid (Reader w2 P (l, 0) F) := R1.out.ext e2 (fun _ _ h => h)
  have FP : Hid (∀ k, F k → w.heap.size ≤ k ∧ k ≠ b ∧ k ≠ p) := fun k hk => by
    obtain ⟨_, _, _, _, _, _, _, _, _, h7, _⟩ := R1.out
    have h1 := FF.out k hk
    have h2 := h7 k hk
    exact ⟨h1, by omega, by omega⟩
  have E2 : Hid (Ext nob w w2) := E1.out.trans' e2
  clear m2 e2 hb hp R1 E1 FF
  have HPP : Hid (w.heap.size ≤ P ∧ P ≠ b ∧ P ≠ p) := FP.out P R2.out.mem
  go_wp2_with fail
  refine (rcount_ok P (l, 0) F 9007199254740991 _ R2.out).mono ?_
  rintro e w3 ⟨rfl, r3, e3⟩
  obtain ⟨lf, hlf⟩ : ∃ lf, lf = (rCount 9007199254740991 (l, 0)).1 := ⟨_, rfl⟩
  obtain ⟨s3, hs3⟩ : ∃ s3, s3 = (rCount 9007199254740991 (l, 0)).2 := ⟨_, rfl⟩
  rw [← hs3] at r3
  rw [← hlf]
  have R3 := Lib.hid r3
  have M3 : Hid (MarksAt w3 p b 0 0 D0) := M2.out.ext e3 (fun h => HPP.out.2.2 h.symm) (fun h => HPP.out.2.1 h.symm)
  have E3 : Hid (Ext nob w w3) := E2.out.trans e3 (fun i hi h => by have h1 := HPP.out.1; have h2 : i = P := h; omega)
  have HLF := Lib.hid hlf
  have HS3 := Lib.hid hs3
  clear r3 e3 hlf hs3 R2 M2 E2
  go_wp2_with fail
  refine (num1r_ok P s3 F _ R3.out).mono ?_
  rintro e w4 ⟨rfl, r4, e4⟩
  obtain ⟨ep, hep⟩ : ∃ ep, ep = (rNum1 s3).1 := ⟨_, rfl⟩
  obtain ⟨s4, hs4⟩ : ∃ s4, s4 = (rNum1 s3).2 := ⟨_, rfl⟩
  rw [← hs4] at r4
  rw [← hep]
  have R4 := Lib.hid r4
  have M4 : Hid (MarksAt w4 p b 0 0 D0) := M3.out.ext e4 (fun h => HPP.out.2.2 h.symm) (fun h => HPP.out.2.1 h.symm)
  have E4 : Hid (Ext nob w w4) := E3.out.trans e4 (fun i hi h => by have h1 := HPP.out.1; have h2 : i = P := h; omega)
  have HEP := Lib.hid hep
  have HS4 := Lib.hid hs4
  clear r4 e4 hep hs4 R3 M3 E3
  obtain ⟨c0, c1, c2, f0, f1, f2, hlt⟩ := cells3 M4.out.1
  go_upto_region 3 with fail
  obtain ⟨w5, hw5⟩ : ∃ w5, w5 = (w4.setCell ⟨p, 0, none⟩ (.int .i64 (lf : Int))).setCell ⟨p, 1, none⟩ (.int .i64 (ep : Int)) := ⟨_, rfl⟩
  have e45 : Ext (fun k => k = p) w4 w5 := by rw [hw5]; exact ((Ext.refl (fun k => k = p) w4).setCell ⟨p, 0, none⟩ _ (fun _ => rfl)).setCell ⟨p, 1, none⟩ _ (fun _ => rfl)
  have m5 : MarksAt w5 p b lf ep D0 := ⟨by rw [hw5]; exact blk_set (blk_set M4.out.1 0 (.int .i64 (lf : Int))) 1 (.int .i64 (ep : Int)), M4.out.2.1.ext e45 M4.out.2.2, M4.out.2.2⟩
  have M5 := Lib.hid m5
  have R5 : Hid (Reader w5 P s4 F) := R4.out.ext e45 (fun k hk h => (FP.out k hk).2.2 h)
  have E5 : Hid (Ext nob w w5) := E4.out.trans e45 (fun i hi h => by have h1 := HB.out.2.1; have h2 : i = p := h; omega)
  rw [← hw5]
  clear hw5 e45 m5 c0 c1 c2 f0 f1 f2 hlt R4 M4 E4
  obtain ⟨d0, -, -, -, -, -, hlt⟩ := cells3 M5.out.1
  have hbz := name_zero
  try simp only [Act.put, List.setIfInBounds_toArray, List.set_cons_zero, List.set_cons_succ]
  go_upto_region 5 with (first
    | (refine wpList_store_new rfl 60 (.tmp 7) (.tmp 29) rfl w5.heap.size (z32.map byt).toArray rfl rfl 60 _ (blk_new w5 _) hi60z rfl hone60z ?_; intro w6 k6 e6)
    | fail)
  try simp only [Act.put, List.setIfInBounds_toArray, List.set_cons_zero, List.set_cons_succ]
  have E56 : Hid (Ext nob w5 w6) := ((Ext.refl nob w5).alloc _).trans e6 (fun i hi h => absurd hi (by rw [h]; omega))
  obtain ⟨lb, hlb⟩ : ∃ lb, lb = w5.heap.size := ⟨_, rfl⟩
  rw [← hlb] at k6 ⊢
  have K6 := Lib.hid k6
  have R6 : Hid (Reader w6 P s4 F) := R5.out.ext E56.out (fun _ _ h => h)
  have M6 : Hid (MarksAt w6 p b lf ep D0) := M5.out.ext E56.out (fun h => h) (fun h => h)
  have E6 : Hid (Ext nob w w6) := E5.out.trans' E56.out
  have HLB : Hid (w.heap.size ≤ lb ∧ lb ≠ p ∧ lb ≠ b ∧ lb ≠ P ∧ ¬ F lb) := by
    have h1 := E5.out.size
    have h2 := blk_lt M5.out.1
    have h3 := M5.out.2.1.lt
    have h4 := R5.out.lt
    obtain ⟨_, _, _, _, _, _, _, _, _, h7, _⟩ := R5.out
    refine ⟨by omega, by omega, by omega, by omega, fun h => ?_⟩
    have := h7 lb h
    omega
  clear k6 e6 hlb d0 hlt E56 R5 M5 E5 hbz
  go_wp2_with fail
  refine (rcount_ok P s4 F 64 _ R6.out).mono ?_
  rintro e w7 ⟨rfl, r7, e7⟩
  obtain ⟨N, hN⟩ : ∃ N, N = (rCount 64 s4).1 := ⟨_, rfl⟩
  obtain ⟨s7, hs7⟩ : ∃ s7, s7 = (rCount 64 s4).2 := ⟨_, rfl⟩
  have hN64 : N ≤ 64 := by have := (rCount_le 64 (by decide) s4).1; omega
  rw [← hs7] at r7
  rw [← hN]
  have R7 := Lib.hid r7
  have K7 := Lib.hid (e7.blk K6.out (fun h => HLB.out.2.2.2.1 h))
  have M7 : Hid (MarksAt w7 p b lf ep D0) := M6.out.ext e7 (fun h => HPP.out.2.2 h.symm) (fun h => HPP.out.2.1 h.symm)
  have E7 : Hid (Ext nob w w7) := E6.out.trans e7 (fun i hi h => by have h1 := HPP.out.1; have h2 : i = P := h; omega)
  have HALL : Hid (oGo N true z32 (decide (lf ≤ 1048576)) D0 s7 = oAll l ∧ lf = oLife l ∧ ep = oEpoch l) := by
    have h1 := HLF.out
    have h2 := HS3.out
    have h3 := HEP.out
    have h4 := HS4.out
    subst h1 h2 h3 h4 hN hs7
    exact ⟨rfl, rfl, rfl⟩
  clear r7 e7 hN hs7 R6 K6 M6 E6 HLF HS3 HEP HS4
  go_wp2_with fail
  go_loopw [6, 32] (fun v6 v32 wr => ∃ (i : Nat) (okb : Bool) (last : List UInt8) (D : DataW Unit) (s : RSt), v32 = .int .i64 (i : Int) ∧ v6 = .bool okb ∧ i ≤ N ∧ last.length = 32 ∧ Reader wr P s F ∧ wr.heap[lb]? = some (.cells (last.map byt).toArray 60 (0, 0)) ∧ MarksAt wr p b lf ep D ∧ Tidy D ∧ Maps.size D ≤ i ∧ oGo (N - i) (decide (i = 0)) last okb D s = oAll l ∧ Ext nob w wr) (fun _ v _ => N - (intOf v).toNat)
  case atStart => exact ⟨0, _, z32, D0, s7, rfl, rfl, by omega, rfl, R7.out, K7.out, M7.out, tidy_empty, by simp [Maps.size], by rw [decide_eq_decide.2 (show ((lf : Int) ≤ 1048576) ↔ lf ≤ 1048576 by omega)]; exact HALL.out.1, E7.out⟩
  case round =>
    obtain ⟨i, okb, last, D, s, rfl, rfl, hi, hll, hr, hk, hm, ht, hsz, ho, he⟩ := hrel
    have RR := Lib.hid hr
    have KK := Lib.hid hk
    have MM := Lib.hid hm
    have TT := Lib.hid ht
    have SZ := Lib.hid hsz
    have OO := Lib.hid ho
    have EE := Lib.hid he
    have HLL := Lib.hid hll
    clear hr hk hm ht hsz ho he hll
    by_cases hiN : i < N
    · have hii : (i : Int) < N := by omega
      go_upto_region 10 with fail
      try simp only [Act.put, List.setIfInBounds_toArray, List.set_cons_zero, List.set_cons_succ]
      obtain ⟨nb, hnb⟩ : ∃ nb, nb = wr.heap.size := ⟨_, rfl⟩
      obtain ⟨xb, hxb⟩ : ∃ xb, xb = wr.heap.size + 1 := ⟨_, rfl⟩
      obtain ⟨W, hW⟩ : ∃ W, W = (wr.alloc (.cells (z32.map byt).toArray 60)).alloc (.cells (Value.int .i64 0 :: z32.map byt).toArray 122) := ⟨_, rfl⟩
      have kn : W.heap[nb]? = some (.cells (z32.map byt).toArray 60 (0, 0)) := by rw [hW, hnb]; exact blk_alloc (blk_new wr _) _
      have kx : W.heap[xb]? = some (.cells (Value.int .i64 0 :: z32.map byt).toArray 122 (0, 0)) := by rw [hW, hxb]; exact mblk1 wr _ _
      have EW : Hid (Ext nob wr W) := by rw [hW]; exact ((Ext.refl nob wr).alloc _).alloc _
      have KN := Lib.hid kn
      have KX := Lib.hid kx
      have HNX : Hid (nb ≠ xb ∧ wr.heap.size ≤ nb ∧ wr.heap.size ≤ xb) := by rw [hnb, hxb]; exact ⟨by omega, by omega, by omega⟩
      have HFN : Hid (P ≠ nb ∧ P ≠ xb ∧ p ≠ nb ∧ p ≠ xb ∧ b ≠ nb ∧ b ≠ xb ∧ lb ≠ nb ∧ lb ≠ xb) := by
        have h1 := RR.out.lt
        have h2 := blk_lt MM.out.1
        have h3 := MM.out.2.1.lt
        have h4 := blk_lt KK.out
        have h5 := HNX.out
        exact ⟨by omega, by omega, by omega, by omega, by omega, by omega, by omega, by omega⟩
      change Code.wp _ _ _ _ ((wr.alloc (.cells (z32.map byt).toArray 60)).alloc (.cells (Value.int .i64 0 :: z32.map byt).toArray 122))
      rw [← hW, ← hxb, ← hnb]
      have RW : Hid (Reader W P s F) := RR.out.ext EW.out (fun _ _ h => h)
      clear hW hxb hnb kn kx
      refine wp_region_held_drew (S := (fun _ => True)) (by kernel_rfl) trivial (fun hHeld => ?_)
      refine wpAnyH_take (i := 0) (v := ?_) rfl (by kernel_rfl) (by kernel_rfl) (by kernel_rfl) (fun _ _ _ h => h) (Or.inl ⟨by rfl, ?_⟩) (by assumption) ?_
      rotate_left
      · intro w hSw; (try dsimp only at hSw); go_simp; try with_reducible rfl
      try simp only [Act.put, List.setIfInBounds_toArray, List.set_cons_zero, List.set_cons_succ]
      refine wpAnyH_take (i := 1) (v := ?_) rfl (by kernel_rfl) (by kernel_rfl) (by kernel_rfl) (fun _ _ _ h => h) (Or.inl ⟨by rfl, ?_⟩) (by assumption) ?_
      rotate_left
      · intro w hSw; (try dsimp only at hSw); go_simp; try with_reducible rfl
      try simp only [Act.put, List.setIfInBounds_toArray, List.set_cons_zero, List.set_cons_succ]
      refine wpAnyH_ready (rs := [2]) (by kernel_rfl) (by simp) ?_
      refine AllReadyH.cons rfl (fun K hK => ?_) AllReadyH.nil
      go_simp
      go_at_call 88
      refine (rraw_lit P s F 32 _ rfl _ (RW.out.ext (Ext.refl nob W).drew (fun _ _ h => h))).mono ?_
      rintro e w8 ⟨ra, rc, rfl, h1, h2, h3, h4⟩
      have E8 : Hid (Ext (fun k => k = P) W w8) := (Ext.refl _ W).drew.trans' h4
      have RD8 := Lib.hid h1
      have R8 := Lib.hid h3
      have KN8 := Lib.hid (E8.out.blk KN.out (fun h => HFN.out.1 h.symm))
      have KX8 := Lib.hid (E8.out.blk KX.out (fun h => HFN.out.2.1 h.symm))
      clear h1 h2 h3 h4 KN KX RW
      go_wp2_with fail
      refine hK.out _ _ (trivial) (fun hHeld => ?_)
      clear hK K
      try simp only [Act.put, List.setIfInBounds_toArray, List.set_cons_zero, List.set_cons_succ]
      obtain ⟨na, hna⟩ : ∃ na, na = (rRaw 32 s).1 := ⟨_, rfl⟩
      have hnl : na.length ≤ 32 := by rw [hna]; exact rRaw_le 32 s
      rw [← hna] at RD8 ⊢
      refine wpAnyH_ready (rs := [3]) (by kernel_rfl) (by simp) ?_
      refine AllReadyH.cons rfl (fun K hK => ?_) AllReadyH.nil
      refine step_copy rfl (.tmp 35) (.tmp 37) 23 23 rfl 5 Tryd.underlying23 (by kernel_rfl) nb 0 32 32 ra na.length rc rfl rfl (z32.map byt) 60 KN8.out (na.map byt) (by simp) hnl RD8.out (by simp [z32]; omega) (oneCell_byt _) ?_
      intro w9 k9 x9
      have k9' : w9.heap[nb]? = some (.cells ((pad32 na).map byt).toArray 60 (0, 0)) := by
        rw [k9]
        unfold pad32
        simp
      have KN9 := Lib.hid k9'
      have E9 : Hid (Ext (fun k => k = P ∨ k = nb) W w9) := (E8.out.mono (fun _ _ h => .inl h)).trans' (x9.mono (fun _ _ h => .inr h))
      have KX9 := Lib.hid (x9.blk KX8.out (fun h => HNX.out.1 h.symm))
      have R9 : Hid (Reader w9 P (rRaw 32 s).2 F) := R8.out.ext x9 (fun k hk h => by
        have h6 := HNX.out.2.1
        obtain ⟨_, _, _, _, _, _, _, _, _, h7, _⟩ := RR.out
        have h8 := h7 k hk
        omega)
      clear k9 k9' x9 KN8 KX8 R8 RD8
      refine hK.out _ _ (trivial) (fun hHeld => ?_)
      clear hK K
      try simp only [Act.put, List.setIfInBounds_toArray, List.set_cons_zero, List.set_cons_succ]
      try simp only [List.getElem_toArray, List.getElem_cons_succ, List.getElem_cons_zero, Act.put, List.setIfInBounds_toArray, List.set_cons_zero, List.set_cons_succ]
      refine wpAnyH_done (by kernel_rfl) ?_ _
      obtain ⟨nm, hnm⟩ : ∃ nm, nm = pad32 na := ⟨_, rfl⟩
      obtain ⟨s9, hs9⟩ : ∃ s9, s9 = (rRaw 32 s).2 := ⟨_, rfl⟩
      rw [← hnm] at KN9
      rw [← hs9] at R9
      have HS9 := Lib.hid hs9
      have HNM := Lib.hid hnm
      have HNA := Lib.hid hna
      clear hs9 hnm hna hnl
      obtain ⟨x0, -, -⟩ : w9.cell? ⟨xb, 0, none⟩ = some (.int .i64 0) ∧ True ∧ True := ⟨cell_of' KX9.out rfl, trivial, trivial⟩
      go_wp2_with fail
      refine (rcount_ok P s9 F 9007199254740991 _ R9.out).mono ?_
      rintro e w10 ⟨rfl, r10, x10⟩
      obtain ⟨v, hv⟩ : ∃ v, v = (rCount 9007199254740991 s9).1 := ⟨_, rfl⟩
      obtain ⟨s10, hs10⟩ : ∃ s10, s10 = (rCount 9007199254740991 s9).2 := ⟨_, rfl⟩
      rw [← hs10] at r10
      rw [← hv]
      have HV := Lib.hid hv
      have HS10 := Lib.hid hs10
      clear hv hs10
      have kx10 := x10.blk KX9.out (fun h => HFN.out.2.1 h.symm)
      have y0 : w10.cell? ⟨xb, 0, none⟩ = some (.int .i64 0) := cell_of' kx10 rfl
      have yf : w10.frozen? ⟨xb, 0, none⟩ = false := by simp [World.frozen?, kx10]
      have yl : xb < w10.heap.size := blk_lt kx10
      go_upto_region 12 with fail
      try simp only [Act.put, List.setIfInBounds_toArray, List.set_cons_zero, List.set_cons_succ]
      obtain ⟨w11, hw11⟩ : ∃ w11, w11 = w10.setCell ⟨xb, 0, none⟩ (.int .i64 (v : Int)) := ⟨_, rfl⟩
      have e11 : Ext (fun k => k = xb) w10 w11 := by rw [hw11]; exact (Ext.refl (fun k => k = xb) w10).setCell ⟨xb, 0, none⟩ _ (fun _ => rfl)
      have kx11 : w11.heap[xb]? = some (.cells (Value.int .i64 (v : Int) :: z32.map byt).toArray 122 (0, 0)) := by
        rw [hw11]
        have := blk_set kx10 0 (.int .i64 (v : Int))
        simpa using this
      have KX11 := Lib.hid kx11
      have R11 : Hid (Reader w11 P s10 F) := r10.ext e11 (fun k hk h => by
        have h6 := HNX.out.2.2
        obtain ⟨_, _, _, _, _, _, _, _, _, h7, _⟩ := RR.out
        have h8 := h7 k hk
        omega)
      have KN11 := Lib.hid (e11.blk (x10.blk KN9.out (fun h => HFN.out.1 h.symm)) (fun h => HNX.out.1 h))
      have E11 : Hid (Ext (fun k => k = P ∨ k = nb ∨ k = xb) W w11) := ((E9.out.mono (fun _ _ h => by rcases h with h | h; exact .inl h; exact .inr (.inl h))).trans' (x10.mono (fun _ _ h => .inl h))).trans' (e11.mono (fun _ _ h => .inr (.inr h)))
      rw [← hw11]
      clear hw11 kx11 e11 r10 x10 kx10 y0 yf yl x0 KN9 KX9 R9 E9
      refine wp_region_held_drew (S := (fun _ => True)) (by kernel_rfl) trivial (fun hHeld => ?_)
      refine wpAnyH_take (i := 0) (v := ?_) rfl (by kernel_rfl) (by kernel_rfl) (by kernel_rfl) (fun _ _ _ h => h) (Or.inl ⟨by rfl, ?_⟩) (by assumption) ?_
      rotate_left
      · intro w hSw; (try dsimp only at hSw); go_simp; try with_reducible rfl
      try simp only [Act.put, List.setIfInBounds_toArray, List.set_cons_zero, List.set_cons_succ]
      refine wpAnyH_take (i := 1) (v := ?_) rfl (by kernel_rfl) (by kernel_rfl) (by kernel_rfl) (fun _ _ _ h => h) (Or.inl ⟨by rfl, ?_⟩) (by assumption) ?_
      rotate_left
      · intro w hSw; (try dsimp only at hSw); go_simp; try with_reducible rfl
      try simp only [Act.put, List.setIfInBounds_toArray, List.set_cons_zero, List.set_cons_succ]
      refine wpAnyH_take (i := 2) (v := ?_) rfl (by kernel_rfl) (by kernel_rfl) (by kernel_rfl) (fun _ _ _ h => h) (Or.inl ⟨by rfl, ?_⟩) (by assumption) ?_
      rotate_left
      · intro w hSw; (try dsimp only at hSw); go_simp; try with_reducible rfl
      try simp only [Act.put, List.setIfInBounds_toArray, List.set_cons_zero, List.set_cons_succ]
      refine wpAnyH_ready (rs := [3]) (by kernel_rfl) (by simp) ?_
      refine AllReadyH.cons rfl (fun K hK => ?_) AllReadyH.nil
      go_simp
      go_at_call 88
      refine (rraw_lit P s10 F 32 _ rfl _ (R11.out.ext (Ext.refl nob w11).drew (fun _ _ h => h))).mono ?_
      rintro e w12 ⟨da, dc, rfl, h1, h2, h3, h4⟩
      have E12 : Hid (Ext (fun k => k = P) w11 w12) := (Ext.refl _ w11).drew.trans' h4
      have RD12 := Lib.hid h1
      have R12 := Lib.hid h3
      have KN12 := Lib.hid (E12.out.blk KN11.out (fun h => HFN.out.1 h.symm))
      have KX12 := Lib.hid (E12.out.blk KX11.out (fun h => HFN.out.2.1 h.symm))
      clear h1 h2 h3 h4 KN11 KX11 R11
      go_wp2_with fail
      refine hK.out _ _ (trivial) (fun hHeld => ?_)
      clear hK K
      try simp only [Act.put, List.setIfInBounds_toArray, List.set_cons_zero, List.set_cons_succ]
      obtain ⟨db, hdb⟩ : ∃ db, db = (rRaw 32 s10).1 := ⟨_, rfl⟩
      have hdl : db.length ≤ 32 := by rw [hdb]; exact rRaw_le 32 s10
      rw [← hdb] at RD12 ⊢
      refine wpAnyH_ready (rs := [4]) (by kernel_rfl) (by simp) ?_
      refine AllReadyH.cons rfl (fun K hK => ?_) AllReadyH.nil
      refine step_copy rfl (.tmp 43) (.tmp 45) 23 23 rfl 5 Tryd.underlying23 (by kernel_rfl) xb 1 32 32 da db.length dc rfl rfl (Value.int .i64 (v : Int) :: z32.map byt) 122 KX12.out (db.map byt) (by simp) hdl RD12.out (by simp [z32]; omega) (oneCell_byt _) ?_
      intro w13 k13 x13
      have k13' : w13.heap[xb]? = some (.cells (Value.int .i64 (v : Int) :: (pad32 db).map byt).toArray 122 (0, 0)) := by
        rw [k13]
        unfold pad32
        simp [Nat.add_comm 1]
      have KX13 := Lib.hid k13'
      have KN13 := Lib.hid (x13.blk KN12.out (fun h => HNX.out.1 h))
      obtain ⟨s13, hs13⟩ : ∃ s13, s13 = (rRaw 32 s10).2 := ⟨_, rfl⟩
      rw [← hs13] at R12
      have R13 : Hid (Reader w13 P s13 F) := R12.out.ext x13 (fun k hk h => by
        have h6 := HNX.out.2.2
        obtain ⟨_, _, _, _, _, _, _, _, _, h7, _⟩ := RR.out
        have h8 := h7 k hk
        omega)
      have E13 : Hid (Ext (fun k => k = P) wr w13) := EW.out.nob.trans ((E11.out.trans' (E12.out.mono (fun _ _ h => .inl h))).trans' (x13.mono (fun _ _ h => .inr (.inr h)))) (fun i hi h => by
        have h6 := HNX.out
        rcases h with h | h | h <;> omega)
      obtain ⟨dg, hdg⟩ : ∃ dg, dg = pad32 db := ⟨_, rfl⟩
      have hnl : nm.length = 32 := by rw [HNM.out, HNA.out]; exact pad32_len (rRaw_le 32 s)
      have hdgl : dg.length = 32 := by rw [hdg]; exact pad32_len hdl
      rw [← hdg] at KX13
      have HR : Hid (rEnt s = (⟨nm, v, dg⟩, s13)) := by
        have h1 := HNM.out
        have h2 := HNA.out
        have h3 := HS9.out
        have h4 := HV.out
        have h5 := HS10.out
        subst h1 h2 h3 h4 h5 hdb hs13 hdg
        rfl
      clear k13 k13' x13 KN12 KX12 R12 RD12 hs13 hdg hdb hdl E11 E12 HV HS10 HS9 HNM HNA
      refine hK.out _ _ (trivial) (fun hHeld => ?_)
      clear hK K
      try simp only [Act.put, List.setIfInBounds_toArray, List.set_cons_zero, List.set_cons_succ]
      try simp only [List.getElem_toArray, List.getElem_cons_succ, List.getElem_cons_zero, Act.put, List.setIfInBounds_toArray, List.set_cons_zero, List.set_cons_succ]
      refine wpAnyH_done (by kernel_rfl) ?_ _
      have KL13 := Lib.hid (E13.out.blk KK.out (fun h => HLB.out.2.2.2.1 h))
      have MM13 : Hid (MarksAt w13 p b lf ep D) := MM.out.ext E13.out (fun h => HPP.out.2.2 h.symm) (fun h => HPP.out.2.1 h.symm)
      have hi60n : (Tryd.prog.info? 60).map (·.size) = some (nm.map byt).toArray.size := by rw [List.size_toArray, List.length_map, hnl]; kernel_rfl
      have hi60l : (Tryd.prog.info? 60).map (·.size) = some (last.map byt).toArray.size := by rw [List.size_toArray, List.length_map, HLL.out]; kernel_rfl
      have hone60n : (nm.map byt).toArray.all (·.oneCell') = true := all_oneCell_toArray (fun u hu => oneCell_byt _ u hu)
      go_upto_region 13 with fail
      go_cut [6] (fun s6 wx => s6 = .bool (okb && decide (0 < v) && (decide (i = 0) || decide (last < nm))) ∧ Ext nob w13 wx)
      case first =>
        have cx0 : w13.cell? ⟨xb, 0, none⟩ = some (.int .i64 (v : Int)) := cell_of' KX13.out rfl
        cases hok : okb with
        | false =>
          go_wp2_with fail
          go_meet
          exact ⟨by simp [hok], Ext.refl _ _⟩
        | true =>
          by_cases hv0 : 0 < v
          · have hd0 : decide (0 < v) = true := by simpa using hv0
            by_cases hi0 : i = 0
            · have hq0 : ((i : Int) == 0) = true := by rw [hi0]; rfl
              have HI0 := Lib.hid hi0
              clear hi0
              go_wp2_with fail
              go_meet
              exact ⟨by simp [hok, hv0, HI0.out], Ext.refl _ _⟩
            · have hq0 : ((i : Int) == 0) = false := by simp [hi0]
              have HI0 := Lib.hid hi0
              clear hi0
              go_wp2_with (first
                | (refine wpList_load_rowG (by rfl) 60 (.tmp 7) rfl lb rfl 60 (last.map byt).toArray (0, 0) _ KL13.out hu60 rfl hi60l ?_)
                | (refine wpList_load_rowG (by rfl) 60 (.tmp 9) rfl nb rfl 60 (nm.map byt).toArray (0, 0) _ KN13.out hu60 rfl hi60n ?_)
                | fail)
              refine (order_lt last nm HLL.out hnl _).mono ?_
              rintro e w14 ⟨z, rfl, hz, x14⟩
              have X14 := Lib.hid x14
              have HZ := Lib.hid hz
              clear hz x14
              by_cases hll : last < nm
              · have hz0 : z < 0 := HZ.out.2 hll
                have HLT := Lib.hid hll
                clear hll
                go_wp2_with fail
                go_meet
                exact ⟨by simp [hok, hv0, HLT.out], X14.out⟩
              · have hz0 : ¬ z < 0 := fun h => hll (HZ.out.1 h)
                have HLT := Lib.hid hll
                clear hll
                go_wp2_with fail
                go_meet
                exact ⟨by simp only [hok, hd0, decide_eq_false HLT.out, decide_eq_false HI0.out]; simp; omega, X14.out⟩
          · have hd0 : decide (0 < v) = false := by simpa using hv0
            have HV0 := Lib.hid hv0
            clear hv0
            go_wp2_with fail
            go_meet
            exact ⟨by simp only [hok, hd0]; simp, Ext.refl _ _⟩
      case rest =>
        obtain ⟨rfl, ec⟩ := hcut
        obtain ⟨ok2, hok2⟩ : ∃ ok2, ok2 = (okb && decide (0 < v) && (decide (i = 0) || decide (last < nm))) := ⟨_, rfl⟩
        rw [← hok2]
        have HOK := Lib.hid hok2
        have HEC := Lib.hid ec
        clear hok2 ec
        have MC : Hid (MarksAt wc p b lf ep D) := MM13.out.ext HEC.out (fun h => h) (fun h => h)
        have KNC := Lib.hid (HEC.out.blk KN13.out (fun h => h))
        have KXC := Lib.hid (HEC.out.blk KX13.out (fun h => h))
        have KLC := Lib.hid (HEC.out.blk KL13.out (fun h => h))
        have RC : Hid (Reader wc P s13 F) := R13.out.ext HEC.out (fun _ _ h => h)
        have EC : Hid (Ext (fun k => k = P) wr wc) := E13.out.trans HEC.out (fun i hi h => h.elim)
        have hi60' : (Tryd.prog.info? 60).map (·.size) = some (nm.map byt).length := by rw [List.length_map, hnl]; kernel_rfl
        have hi122' : (Tryd.prog.info? 122).map (·.size) = some (Value.int .i64 (v : Int) :: dg.map byt).length := by simp only [List.length_cons, List.length_map, hdgl]; kernel_rfl
        have hu122 := Tryd.underlying122
        obtain ⟨cc0, cc1, cc2, -, -, -, hclt⟩ := cells3 MC.out.1
        have HS : Hid (∀ w', Ext (fun k => k = b ∨ k = lb) wc w' → (fun w' => w'.cell? ⟨p, 2, none⟩ = some (.map (some b)) ∧ w'.rangeAt nb 0 (nm.map byt) ∧ w'.rangeAt xb 0 (Value.int .i64 (v : Int) :: dg.map byt)) w') := fun w' e =>
          ⟨e.cell cc2 (fun h => by rcases h with h | h; exact MC.out.2.2 h.symm; exact HLB.out.2.1 h.symm),
            fun j u hj => cell_of' (e.blk KNC.out (fun h => by rcases h with h | h; exact HFN.out.2.2.2.2.1 h.symm; exact HFN.out.2.2.2.2.2.2.1 h.symm)) (by rw [Nat.zero_add]; simpa using hj),
            fun j u hj => cell_of' (e.blk KXC.out (fun h => by rcases h with h | h; exact HFN.out.2.2.2.2.2.1 h.symm; exact HFN.out.2.2.2.2.2.2.2 h.symm)) (by rw [Nat.zero_add]; simpa using hj)⟩
        clear cc0 cc1
        go_upto_region 14 with fail
        refine wp_region_held_drew (S := (fun w' => w'.cell? ⟨p, 2, none⟩ = some (.map (some b)) ∧ w'.rangeAt nb 0 (nm.map byt) ∧ w'.rangeAt xb 0 (Value.int .i64 (v : Int) :: dg.map byt))) (by kernel_rfl) (HS.out _ (Ext.refl _ wc).drew) (fun hHeld => ?_)
        refine wpAnyH_take (i := 4) (v := .agg (nm.map byt).toArray) rfl (by kernel_rfl) (by kernel_rfl) (by kernel_rfl) (fun _ _ _ h => h) (yieldsIf_load_mid (by rfl) 60 (.tmp 9) rfl nb 0 rfl (nm.map byt) _ (fun w hSw => hSw.2.1) hu60 rfl hi60') (by assumption) ?_
        try simp only [Act.put, List.setIfInBounds_toArray, List.set_cons_zero, List.set_cons_succ]
        refine wpAnyH_take (i := 6) (v := .agg (nm.map byt).toArray) rfl (by kernel_rfl) (by kernel_rfl) (by kernel_rfl) (fun _ _ _ h => h) (yieldsIf_load_mid (by rfl) 60 (.tmp 9) rfl nb 0 rfl (nm.map byt) _ (fun w hSw => hSw.2.1) hu60 rfl hi60') (by assumption) ?_
        try simp only [Act.put, List.setIfInBounds_toArray, List.set_cons_zero, List.set_cons_succ]
        refine wpAnyH_take (i := 5) (v := .agg (Value.int .i64 (v : Int) :: dg.map byt).toArray) rfl (by kernel_rfl) (by kernel_rfl) (by kernel_rfl) (fun _ _ _ h => h) (yieldsIf_load_mid (by rfl) 122 (.tmp 10) rfl xb 0 rfl (Value.int .i64 (v : Int) :: dg.map byt) _ (fun w hSw => hSw.2.2) hu122 rfl hi122') (by assumption) ?_
        try simp only [Act.put, List.setIfInBounds_toArray, List.set_cons_zero, List.set_cons_succ]
        refine wpAnyH_take (i := 0) (v := ?_) rfl (by kernel_rfl) (by kernel_rfl) (by kernel_rfl) (fun _ _ _ h => h) (Or.inl ⟨by rfl, ?_⟩) (by assumption) ?_
        rotate_left
        · intro w hSw; (try dsimp only at hSw); go_simp; try with_reducible rfl
        try simp only [Act.put, List.setIfInBounds_toArray, List.set_cons_zero, List.set_cons_succ]
        refine wpAnyH_take (i := 1) (v := ?_) rfl (by kernel_rfl) (by kernel_rfl) (by kernel_rfl) (fun _ _ _ h => h) (Or.inl ⟨by rfl, ?_⟩) (by assumption) ?_
        rotate_left
        · intro w hSw; (try dsimp only at hSw); go_simp; try with_reducible rfl
        try simp only [Act.put, List.setIfInBounds_toArray, List.set_cons_zero, List.set_cons_succ]
        refine wpAnyH_take (i := 2) (v := ?_) rfl (by kernel_rfl) (by kernel_rfl) (by kernel_rfl) (fun _ _ _ h => h) (Or.inl ⟨by rfl, ?_⟩) (by assumption) ?_
        rotate_left
        · intro w hSw; (try dsimp only at hSw); go_simp; try with_reducible rfl
        try simp only [Act.put, List.setIfInBounds_toArray, List.set_cons_zero, List.set_cons_succ]
        refine wpAnyH_take (i := 3) (v := ?_) rfl (by kernel_rfl) (by kernel_rfl) (by kernel_rfl) (fun _ _ _ h => h) (Or.inl ⟨by rfl, ?_⟩) (by assumption) ?_
        rotate_left
        · intro w hSw; (try dsimp only at hSw); go_simp; try with_reducible rfl
        try simp only [Act.put, List.setIfInBounds_toArray, List.set_cons_zero, List.set_cons_succ]
        obtain ⟨v0, st, o1, hme, hob, heb, hst⟩ := ((MC.out.2.1.ext (Ext.refl nob wc).drew (fun h => h)).entry (by have h1 := SZ.out; omega) hnl)
        obtain ⟨wm, hwm⟩ : ∃ wm, wm = Go.ChangeMaps.setBlock wc.drew b o1 := ⟨_, rfl⟩
        rw [← hwm] at hme hob heb
        have HST := Lib.hid hst
        have HOB := Lib.hid hob
        have EM : Hid (Ext (fun k => k = b) wc wm) := (Ext.refl _ wc).drew.trans' heb
        clear hst hob heb hwm
        refine wpAnyH_ready (rs := [7]) (by kernel_rfl) (by simp) ?_
        refine AllReadyH.cons rfl (fun K hK => ?_) AllReadyH.nil
        go_simp
        refine hK.out _ _ (HS.out _ (EM.out.mono (fun _ _ h => .inl h))) (fun hHeld => ?_)
        clear hK K
        try simp only [Act.put, List.setIfInBounds_toArray, List.set_cons_zero, List.set_cons_succ]
        clear hme
        refine wpAnyH_take (i := 8) (v := ?_) rfl (by kernel_rfl) (by kernel_rfl) (by kernel_rfl) (fun _ _ _ h => h) (Or.inl ⟨by rfl, ?_⟩) (by assumption) ?_
        rotate_left
        · intro w hSw; (try dsimp only at hSw); go_simp; try with_reducible rfl
        try simp only [Act.put, List.setIfInBounds_toArray, List.set_cons_zero, List.set_cons_succ]
        obtain ⟨w15, hes, hn15, x15⟩ := HST.out wm (v : Int) dg hdgl HOB.out
        have N15 := Lib.hid hn15
        have E15 : Hid (Ext (fun k => k = b) wc w15) := EM.out.trans' x15
        clear hn15 x15
        unfold seenV at hes
        refine wpAnyH_ready (rs := [9]) (by kernel_rfl) (by simp) ?_
        refine AllReadyH.cons rfl (fun K hK => ?_) AllReadyH.nil
        go_simp
        refine hK.out _ _ (HS.out _ (E15.out.mono (fun _ _ h => .inl h))) (fun hHeld => ?_)
        clear hK K
        try simp only [Act.put, List.setIfInBounds_toArray, List.set_cons_zero, List.set_cons_succ]
        clear hes
        have KL15 := Lib.hid (E15.out.blk KLC.out (fun h => HLB.out.2.2.1 h))
        refine wpAnyH_ready (rs := [10]) (by kernel_rfl) (by simp) ?_
        refine AllReadyH.cons rfl (fun K hK => ?_) AllReadyH.nil
        rw [if_pos (by rfl)]
        refine wp_store_new 60 (.tmp 7) (.tmp 69) rfl lb (nm.map byt).toArray rfl rfl 60 _ KL15.out hi60n (by simp [HLL.out, hnl]) hone60n ?_
        intro w16 k16 x16
        have K16 := Lib.hid k16
        have E16 : Hid (Ext (fun k => k = b ∨ k = lb) wc w16) := (E15.out.mono (fun _ _ h => .inl h)).trans' (x16.mono (fun _ _ h => .inr h))
        have N16 : Hid (NamesAt w16 b (putD D nm (v : Int) dg)) := N15.out.ext x16 (fun h => HLB.out.2.2.1 h.symm)
        clear k16 x16
        refine hK.out _ _ (HS.out _ E16.out) (fun hHeld => ?_)
        clear hK K
        try simp only [Act.put, List.setIfInBounds_toArray, List.set_cons_zero, List.set_cons_succ]
        try simp only [List.getElem_toArray, List.getElem_cons_succ, List.getElem_cons_zero, Act.put, List.setIfInBounds_toArray, List.set_cons_zero, List.set_cons_succ]
        refine wpAnyH_done (by kernel_rfl) ?_ _
        go_wp2_with fail
        have hstep := oGo_step OO.out hiN
        rw [HR.out] at hstep
        have R16 : Hid (Reader w16 P s13 F) := RC.out.ext E16.out (fun k hk h => by
          rcases h with h | h
          · exact (FP.out k hk).2.1 h
          · exact HLB.out.2.2.2.2 (h ▸ hk))
        have M16 : Hid (MarksAt w16 p b lf ep (putD D nm (v : Int) dg)) := ⟨E16.out.blk MC.out.1 (fun h => by rcases h with h | h; exact MC.out.2.2 h.symm; exact HLB.out.2.1 h.symm), N16.out, MC.out.2.2⟩
        have EF : Hid (Ext nob w w16) := (EE.out.trans EC.out (fun i hi h => by have h1 := HPP.out.1; have h2 : i = P := h; omega)).trans E16.out (fun i hi h => by
          have h1 := HB.out.1
          have h2 := HLB.out.1
          rcases h with h | h <;> omega)
        have HSTP : Hid (oGo (N - (i + 1)) (decide (i + 1 = 0)) nm ok2 (putD D nm (v : Int) dg) s13 = oAll l) := by
          show _ = _
          rw [show decide (i + 1 = 0) = false by simp, HOK.out]
          exact hstep
        clear hstep HR
        go_roundw
        case rel => exact ⟨i + 1, ok2, nm, putD D nm (v : Int) dg, s13, by go_num, rfl, by omega, hnl, R16.out, K16.out, M16.out, TT.out.put (keyLit_str nm) _, Nat.le_trans (size_putD_le TT.out _ _ _) (by have := SZ.out; omega), HSTP.out, EF.out⟩
        case measure => simp [intOf]; omega
    · have hii : ¬ (i : Int) < N := by omega
      have hiN' : i = N := by omega
      have hfin : oAll l = (okb, D, s) := by
        rw [← OO.out, hiN', Nat.sub_self]
        rfl
      have HFIN := Lib.hid hfin
      have hDD : oD l = D := by unfold oD; rw [hfin]
      have HALL2 := HALL.out.2
      have hope : openE l = endE s okb := by unfold openE; rw [hfin]
      have HOPE := Lib.hid hope
      have HDD := Lib.hid hDD
      clear hfin hDD hope hiN' HALL2
      go_wp2_with fail
      refine (err_ok P s F _ RR.out).mono ?_
      rintro e w2 ⟨rfl, rfl⟩
      by_cases hs : s.2 = 0
      · have hs0 : ((s.2 : Int) != 0) = false := by rw [hs]; rfl
        have HS2 := Lib.hid hs
        clear hs
        go_wp2_with fail
        refine (end_ok P s F _ RR.out).mono ?_
        by_cases hs1 : s.1 = []
        · have hre : rEnd s = 0 := by unfold rEnd; rw [if_neg (fun h => h.2 hs1)]; exact HS2.out
          rw [hre]
          rintro e w2 ⟨rfl, rfl⟩
          cases hok : okb with
          | true =>
            have HE0 : Hid (openE l = 0) := by show _ = _; rw [HOPE.out, hok]; unfold endE; rw [if_neg (by rw [HS2.out]; simp), if_neg (by simp [hs1])]
            clear hok hs1 hre
            go_wp2_with fail
            go_ret2
            refine ⟨fun h => absurd HE0.out h, fun _ => ⟨p, b, rfl, ?_, HB.out.2.1, HB.out.1⟩, EE.out⟩
            rw [HDD.out, ← HALL.out.2.1, ← HALL.out.2.2]
            exact MM.out
          | false =>
            have HE4 : Hid (openE l = 4) := by show _ = _; rw [HOPE.out, hok]; unfold endE; rw [if_neg (by rw [HS2.out]; simp), if_pos (.inr rfl)]
            clear hok hs1 hre
            go_wp2_with fail
            go_ret2
            rw [HE4.out]
            exact ⟨fun _ => rfl, fun h => (by cases h), EE.out⟩
        · have hre : rEnd s = 4 := by unfold rEnd; rw [if_pos ⟨HS2.out, hs1⟩]
          rw [hre]
          rintro e w2 ⟨rfl, rfl⟩
          have HE4 : Hid (openE l = 4) := by show _ = _; rw [HOPE.out]; unfold endE; rw [if_neg (by rw [HS2.out]; simp), if_pos (.inl hs1)]
          clear hs1 hre
          go_wp2_with fail
          go_ret2
          rw [HE4.out]
          exact ⟨fun _ => rfl, fun h => (by cases h), EE.out⟩
      · have hs0 : ((s.2 : Int) != 0) = true := by simp [hs]
        have HEs : Hid (openE l = s.2) := by show _ = _; rw [HOPE.out]; unfold endE; rw [if_pos hs]
        have HS2 := Lib.hid hs
        clear hs
        go_wp2_with fail
        refine (err_ok P s F _ RR.out).mono ?_
        rintro e w2 ⟨rfl, rfl⟩
        go_wp2_with fail
        go_ret2
        rw [HEs.out]
        exact ⟨fun _ => rfl, fun h => absurd h HS2.out, EE.out⟩
end Go.Proofs.YtfgfhfmhadondaaDoor
