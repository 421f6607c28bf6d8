/- view: First, Bytes, Sum. -/
import Derived.Test.YtfgfhfmhadondaaDoorView2
namespace Go.Proofs.YtfgfhfmhadondaaDoor
open Go.RowKit
set_option maxHeartbeats 400000

def stepsUp : Int → List RowS → Prop
  | _, [] => True
  | l, r :: t => l ≤ r.step ∧ stepsUp r.step t
def GoodV (L : List RowS) : Prop := (∀ r ∈ L, mayS r = true) ∧ stepsUp 0 L ∧ L.length ≤ 20000
def rowB (last : Int) (r : RowS) : List UInt8 := countB (r.step - last).toNat ++ [UInt8.ofNat r.node.toNat] ++ [UInt8.ofNat r.kind.toNat] ++ (countB r.b.length ++ r.b)
def rowsB : Int → List RowS → List UInt8
  | _, [] => []
  | l, r :: t => rowB l r ++ rowsB r.step t
def viewB (L : List RowS) : List UInt8 := countB L.length ++ rowsB 0 L

theorem mayS_iff (r : RowS) : mayS r = true ↔ ((0 ≤ r.node ∧ r.node < 3) ∨ (10 ≤ r.node ∧ r.node < 14)) ∧ 0 ≤ r.step ∧ r.step ≤ 9007199254740991 ∧ 1 ≤ r.kind ∧ r.kind ≤ 3 ∧ r.b.length ≤ 65536 := by
  simp [mayS, and_assoc]
theorem stepsUp_snoc : ∀ (l : Int) (L : List RowS) (r : RowS), stepsUp l (L ++ [r]) ↔ stepsUp l L ∧ ((L.getLast?.map (·.step)).getD l) ≤ r.step
  | l, [], r => by simp [stepsUp]
  | l, a :: t, r => by
    have := stepsUp_snoc a.step t r
    simp only [List.cons_append, stepsUp, this, and_assoc]
    cases t with
    | nil => simp
    | cons b u => simp [List.getLast?_cons_cons]; cases h : (b :: u).getLast? <;> simp_all
theorem GoodV.nil : GoodV [] := ⟨by simp, trivial, by simp⟩
theorem GoodV.add {L : List RowS} (h : GoodV L) (r : RowS) : GoodV (addL L r) := by
  unfold addL
  split
  · rename_i h0
    have h1 : mayS r = true ∧ ¬ r.step < lastS L ∧ L.length ≠ 20000 := by
      unfold addE at h0
      split at h0
      · cases h0
      · split at h0
        · cases h0
        · rename_i h3 h4
          exact ⟨by by_cases hm : mayS r = true; exact hm; exact absurd (.inl (by simpa using hm)) h3, fun hh => h3 (.inr hh), h4⟩
    refine ⟨fun x hx => ?_, (stepsUp_snoc 0 L r).2 ⟨h.2.1, by have := h1.2.1; unfold lastS at this; omega⟩, by have := h.2.2; simp; omega⟩
    rcases List.mem_append.1 hx with hx | hx
    · exact h.1 x hx
    · simp at hx; subst hx; exact h1.1
  · exact h
theorem ofGo_good : ∀ (t acc : List RowS), GoodV acc → GoodV (ofGo acc t).2
  | [], acc, h => h
  | r :: t, acc, h => by
    unfold ofGo
    split
    · rename_i h0
      have := h.add r
      unfold addL at this
      rw [if_pos h0] at this
      exact ofGo_good t _ this
    · exact h
theorem rowB_len (l : Int) (r : RowS) (h : r.b.length ≤ 65536) : (rowB l r).length ≤ 65558 := by
  have := countB_len (r.step - l).toNat
  have := countB_len r.b.length
  simp [rowB]; omega
theorem rowsB_len : ∀ (l : Int) (L : List RowS), (∀ r ∈ L, mayS r = true) → (rowsB l L).length ≤ L.length * 65558
  | l, [], _ => by simp [rowsB]
  | l, r :: t, h => by
    have h1 := rowB_len l r ((mayS_iff r).1 (h r (by simp))).2.2.2.2.2
    have h2 := rowsB_len r.step t (fun x hx => h x (by simp [hx]))
    simp [rowsB]; omega
theorem viewB_len (L : List RowS) (h : GoodV L) : (viewB L).length + 1000 ≤ big := by
  have h1 := rowsB_len 0 L h.1
  have h2 := countB_len L.length
  have h3 := h.2.2
  simp only [viewB, List.length_append, big]
  omega
/-- Where a walk over the rows stands. -/
theorem rowsB_split : ∀ (L : List RowS) (l : Int) (k : Nat) (r : RowS), L[k]? = some r → rowsB l L = rowsB l (L.take k) ++ (rowB ((((L.take k).getLast?).map (·.step)).getD l) r ++ rowsB r.step (L.drop (k + 1)))
  | [], l, k, r, h => by simp at h
  | a :: t, l, 0, r, h => by simp at h; subst h; simp [rowsB]
  | a :: t, l, k + 1, r, h => by
    have := rowsB_split t a.step k r (by simpa using h)
    simp only [rowsB, List.take_succ_cons, List.drop_succ_cons, this, List.append_assoc]
    congr 4
    cases hq : t.take k with
    | nil => simp
    | cons b u => simp [List.getLast?_cons_cons]; cases h : (b :: u).getLast? <;> simp_all
theorem rowsB_snoc (l : Int) (L : List RowS) (r : RowS) : rowsB l (L ++ [r]) = rowsB l L ++ rowB (((L.getLast?).map (·.step)).getD l) r := by
  have := rowsB_split (L ++ [r]) l L.length r (by simp)
  simpa [rowsB] using this

theorem up_at : ∀ (L : List RowS) (l : Int) (k : Nat) (r : RowS), stepsUp l L → L[k]? = some r → (((L.take k).getLast?).map (·.step)).getD l ≤ r.step
  | [], l, k, r, h, hr => by simp at hr
  | a :: t, l, 0, r, h, hr => by simp at hr; subst hr; simpa using h.1
  | a :: t, l, k + 1, r, h, hr => by
    have := up_at t a.step k r h.2 (by simpa using hr)
    rw [List.take_succ_cons]
    cases hq : t.take k with
    | nil => simpa [hq] using this
    | cons b u => rw [hq] at this; rw [List.getLast?_cons_cons]; cases h : (b :: u).getLast? <;> simp_all

/-- A writer that stands beside a block Z. -/
structure WS (w w1 : World) (P : Nat) (A : List UInt8) (F : Nat → Prop) (Z : Nat) : Prop where
  wr : Writer w1 P A F
  ext : Ext nob w w1
  far : ∀ j, F j → w.heap.size ≤ j
  nz : ¬ F Z
  lt : Z < w1.heap.size
theorem WS.drew {w w1 : World} {P : Nat} {A : List UInt8} {F : Nat → Prop} {Z : Nat} (h : WS w w1 P A F Z) : Writer w1.drew P A F := h.wr.ext (((Ext.refl nob w1)).drew) (fun _ _ h => h)
theorem WS.step {w w1 w2 : World} {P : Nat} {A B : List UInt8} {F : Nat → Prop} {Z : Nat} {e : Ending} (h : WS w w1 P A F Z) (hq : Wrote w1.drew P B F e w2) :
    e = .returned (.pointer (some ⟨P, 0, none⟩)) ∧ ∃ F', WS w w2 P B F' Z ∧ Ext F w1 w2 := by
  obtain ⟨rfl, F', g1, g2, g3⟩ := hq
  have g2 := Ext.undrew g2
  refine ⟨rfl, F', ⟨g1, h.ext.trans g2 (fun j hj hf => by have := h.far j hf; omega), fun j hj => ?_, fun hz => ?_, Nat.lt_of_lt_of_le h.lt g2.size⟩, g2⟩
  · rcases g3 j hj with h' | h'
    · exact h.far j h'
    · have := h.ext.size
      have : w1.heap.size ≤ j := h'
      omega
  · rcases g3 Z hz with h' | h'
    · exact h.nz h'
    · have : w1.heap.size ≤ Z := h'
      have := h.lt
      omega

theorem WS.step' {w w1 w2 : World} {P : Nat} {A B : List UInt8} {F : Nat → Prop} {Z : Nat} {e : Ending} (h : WS w w1 P A F Z) (hq : Wrote w1 P B F e w2) :
    e = .returned (.pointer (some ⟨P, 0, none⟩)) ∧ ∃ F', WS w w2 P B F' Z ∧ Ext F w1 w2 := by
  refine h.step ?_
  obtain ⟨rfl, F', g1, g2, g3⟩ := hq
  exact ⟨rfl, F', g1, ⟨g2.os, g2.tape, g2.output, g2.size, g2.block⟩, g3⟩

set_option maxRecDepth 20000 in
set_option maxHeartbeats 1000000 in
theorem vbytes_ok (p : Nat) (L : List RowS) (F : Nat → Prop) (w : World) (hv : ViewAt w p L F) (hg : GoodV L) :
    Calls Tryd.prog 16 #[.pointer (some ⟨p, 0, none⟩)] w fun e w' => ∃ v, e = .returned v ∧ Own w' 5 1 v (viewB L).length ((viewB L).map byt) ∧ Ext nob w w' ∧ (∀ k, v.ownBlock = some k → w.heap.size ≤ k) := by
  obtain ⟨v, xs, h1, h2, h3, h4, h5, h6, h7, h8⟩ := id hv
  have hx : xs.length = L.length := by rw [← h3, List.length_map]
  obtain ⟨ao, cap, rfl, q1, q2, q3, q4⟩ := Own.shape h2
  rw [hx] at h1
  obtain ⟨c0, c1, f0, f1, hl⟩ := cells2 h1
  have hx1 : L.length ≤ 20000 := hg.2.2
  have HV := Lib.hid hv
  have HG := Lib.hid hg
  have H3 := Lib.hid h3
  have H4 := Lib.hid h4
  have H7 := Lib.hid h7
  have H8 := Lib.hid h8
  have Q1 := Lib.hid q1
  have HXL := Lib.hid hx
  clear hv hg h1 h2 h3 h4 h6 h7 h8 q1 q2 q4 hx c1 f0 f1
  go_enter Tryd.func16, Tryd.ntmps16
  go_wp2_with fail
  refine (none_ok p L F _ HV.out).mono ?_
  rintro e w1 ⟨rfl, rfl⟩
  have hxi : (L.length : Int) ≤ 20000 := by omega
  have hx9 : L.length ≤ 9007199254740991 := by omega
  have hpw : Hid (¬ p = w.heap.size) := by show ¬ _; omega
  go_wp2_with fail
  go_region_held3 (fun w' => w'.cell? ⟨p, 0, none⟩ = some (.slice ao L.length cap)) (first | go_keep | assumption) (first | (go_at_call 54; refine (write_ok _).mono ?_; rintro e w2 ⟨rfl, g1, g2⟩; have G1 := Lib.hid g1; have HE := Lib.hid (Ext.undrew g2); have c0' := g2.cell c0 (fun h => h); clear g1 g2) | (go_at_call 55; refine (count_ok _ [] (fun k => k = w.heap.size) L.length hx9 w2 G1.out (Nat.le_of_ble_eq_true rfl)).mono ?_; rintro e w3 ⟨rfl, F', g1, g2, g3⟩; have K1 := Lib.hid g1; have K2 := Lib.hid g2; have K3 := Lib.hid g3; have c0'' := g2.cell c0' (fun h => hpw.out h); clear g1 g2 g3))
  obtain ⟨P, hP⟩ : ∃ P, P = w.heap.size := ⟨_, rfl⟩
  have HE3 : Hid (Ext nob w w3) := HE.out.trans K2.out (fun j hj e => by omega)
  have HF3 : Hid (∀ j, F' j → w.heap.size ≤ j) := fun j hj => by
    rcases K3.out j hj with h | h
    · omega
    · have := HE.out.size; omega
  have W3 : Hid (Writer w3 P (countB L.length ++ rowsB 0 (L.take 0)) F') := by
    have := K1.out
    show Writer _ _ _ _
    rw [hP]; simpa [rowsB] using this
  rw [← hP]
  have hl3 := Nat.lt_of_lt_of_le hl HE3.out.size
  clear c0 c0' HE K1 K2 K3 hP G1
  go_wp2_with fail
  go_loopw [4, 25] (fun a i wr => ∃ (k : Nat) (F1 : Nat → Prop), a = .int .i64 (lastS (L.take k)) ∧ i = .int .i64 (k : Int) ∧ k ≤ L.length ∧ Writer wr P (countB L.length ++ rowsB 0 (L.take k)) F1 ∧ (∀ j, F1 j → w.heap.size ≤ j) ∧ Ext nob w wr) (fun _ i _ => L.length - (intOf i).toNat)
  case atStart => exact ⟨0, F', rfl, rfl, by omega, W3.out, HF3.out, HE3.out⟩
  case round =>
    obtain ⟨k, F1, rfl, rfl, hk, hw, hF, he⟩ := hrel
    have HW := Lib.hid hw
    have HF := Lib.hid hF
    have HE := Lib.hid he
    clear hw hF he
    by_cases hkn : k < L.length
    · have hki : (k : Int) < L.length := by omega
      obtain ⟨r, hr⟩ : ∃ r, xs[k]? = some r := ⟨xs[k]'(by rw [HXL.out]; exact hkn), List.getElem?_eq_getElem _⟩
      have x2 := Q1.out.ext HE.out (fun _ _ h => h)
      have hne : xs.flatMap RowV.cells ≠ [] := fun h => by have := cells_len xs; rw [h, HXL.out] at this; simp at this; omega
      obtain ⟨g, o, rfl⟩ := x2.addr hne
      obtain ⟨c0, c1, c2, c3⟩ := row_cells x2 k r hr
      have hmem := List.mem_of_getElem? hr
      have y1 := (H4.out r hmem).1
      have hrL : L[k]? = some r.row := by rw [← H3.out, List.getElem?_map, hr]; rfl
      have hmay := (mayS_iff r.row).1 (HG.out.1 _ (List.mem_of_getElem? hrL))
      have hg : g < wr.heap.size := World.block_lt_of_cell? wr _ c0
      have hup := up_at L 0 k r.row HG.out.2.1 hrL
      have htk : L.take (k + 1) = L.take k ++ [r.row] := by rw [List.take_add_one, hrL]; rfl
      obtain ⟨⟨rs, rn, rk, rb⟩, ra, rnn, rc⟩ := r
      simp only [] at *
      obtain ⟨hm1, hm2, hm3, hm4, hm5, hm6⟩ := hmay
      obtain ⟨kd, rfl⟩ := Int.eq_ofNat_of_zero_le (show 0 ≤ rk by omega)
      obtain ⟨nd, rfl⟩ := Int.eq_ofNat_of_zero_le (show 0 ≤ rn by omega)
      obtain ⟨d, hd⟩ := Int.eq_ofNat_of_zero_le (show 0 ≤ rs - lastS (L.take k) by unfold lastS; omega)
      have hl0 : 0 ≤ lastS (L.take k) := by
        cases hq : (L.take k).getLast? with
        | none => simp [lastS, hq]
        | some x => 
          have hx := (mayS_iff x).1 (HG.out.1 x (List.mem_of_mem_take (List.mem_of_getLast? hq)))
          simp only [lastS, hq, Option.map_some, Option.getD_some]; exact hx.2.1
      have e1 : IntKind.i64.wrap (rs - lastS (L.take k)) = (d : Int) := by rw [IntWalk.i64_in _ (by omega)]; exact hd
      have hd9 : d ≤ 9007199254740991 := by omega
      have hnd : nd < 256 := by omega
      have hkd : kd < 256 := by omega
      have hsplit := rowsB_snoc 0 (L.take k) ⟨rs, nd, kd, rb⟩
      rw [← htk] at hsplit
      have hrow : rowB (((L.take k).getLast?.map (·.step)).getD 0) ⟨rs, nd, kd, rb⟩ = countB d ++ [UInt8.ofNat nd] ++ [UInt8.ofNat kd] ++ (countB rnn ++ rb) := by
        have : rs - (((L.take k).getLast?.map (·.step)).getD 0) = (d : Int) := hd
        simp only [rowB, this, Int.toNat_natCast, y1.1]
      rw [hrow] at hsplit
      have hwhole := rowsB_split L 0 k ⟨rs, nd, kd, rb⟩ hrL
      rw [hrow] at hwhole
      have hlen := viewB_len L HG.out
      have hblen := y1.1
      simp only [viewB, hwhole, List.length_append, List.length_cons, List.length_nil] at hlen
      have hc := countB_len d
      have hb1 : Hid ((countB L.length ++ rowsB 0 (L.take k)).length + 10 ≤ big) := by show _ ≤ _; simp only [List.length_append]; omega
      have hb2 : Hid ((countB L.length ++ rowsB 0 (L.take k) ++ countB d).length + 1 ≤ big) := by show _ ≤ _; simp only [List.length_append]; omega
      have hb3 : Hid ((countB L.length ++ rowsB 0 (L.take k) ++ countB d ++ [UInt8.ofNat nd]).length + 1 ≤ big) := by show _ ≤ _; simp only [List.length_append, List.length_cons, List.length_nil]; omega
      have hb4 : Hid ((countB L.length ++ rowsB 0 (L.take k) ++ countB d ++ [UInt8.ofNat nd] ++ [UInt8.ofNat kd]).length + rnn + 10 ≤ big) := by show _ ≤ _; simp only [List.length_append, List.length_cons, List.length_nil]; omega
      have hra : Hid (∀ j, inA ra j → j < w.heap.size) := fun j hj => H8.out j (H7.out _ hmem j hj).1
      have Y1 : Hid (Bytes w ra rnn rb) := y1
      have HSP := Lib.hid hsplit
      have HTK := Lib.hid htk
      have HLS : Hid (lastS (L.take (k + 1)) = rs) := by show _ = _; rw [htk]; simp [lastS]
      clear x2 hne hr hmem y1 hrL hup htk hm1 hm2 hm3 hm4 hm5 hm6 hsplit hrow hwhole hlen hblen hc hl0 hd
      go_wp2_with fail
      obtain ⟨wa, hwa⟩ : ∃ wa, wa = wr.alloc (.cells #[.int .i64 rs, .int .i64 (nd : Int), .int .i64 (kd : Int), .slice ra rnn rc] 34) := ⟨_, rfl⟩
      obtain ⟨Z, hZ⟩ : ∃ Z, Z = wr.heap.size := ⟨_, rfl⟩
      have hbx := blk_new wr (.cells #[.int .i64 rs, .int .i64 (nd : Int), .int .i64 (kd : Int), .slice ra rnn rc] 34)
      rw [← hwa, ← hZ] at hbx ⊢
      obtain ⟨b0, b1, b2, b3, -, -, -, -, hbl⟩ := cells4 hbx
      have S1 : Hid (WS w wa P (countB L.length ++ rowsB 0 (L.take k)) F1 Z) := by
        have hF1 : ∀ j, F1 j → j < wr.heap.size := by obtain ⟨_, _, _, _, _, _, h⟩ := HW.out; exact h
        exact ⟨by rw [hwa]; exact HW.out.ext ((Ext.refl nob wr).alloc _) (fun _ _ h => h), by rw [hwa]; exact HE.out.alloc _, HF.out, fun h => by have := hF1 _ h; omega, hbl⟩
      clear hwa hZ hbx c0 c1 c2 c3
      go_region_held3 (fun w' => w'.cell? ⟨Z, 0, none⟩ = some (.int .i64 rs) ∧ w'.cell? ⟨Z, 1, none⟩ = some (.int .i64 (nd : Int)) ∧ w'.cell? ⟨Z, 2, none⟩ = some (.int .i64 (kd : Int)) ∧ w'.cell? ⟨Z, 3, none⟩ = some (.slice ra rnn rc)) (first | go_keep | (exact ⟨by assumption, by assumption, by assumption, by assumption⟩))
        (first
          | (go_at_call 55; refine (count_ok P _ F1 d hd9 wa.drew S1.out.drew hb1.out).mono ?_; intro e w4 hq; obtain ⟨rfl, F4, k4, x4⟩ := S1.out.step hq; have S4 := Lib.hid k4; have y0 := x4.cell b0 S1.out.nz; have y1 := x4.cell b1 S1.out.nz; have y2 := x4.cell b2 S1.out.nz; have y3 := x4.cell b3 S1.out.nz; clear hq k4 x4)
          | (go_at_call 56; refine (num1_ok P _ F5 kd hkd w5 S5.out.wr hb3.out).mono ?_; intro e w6 hq; obtain ⟨rfl, F6, k4, x4⟩ := S5.out.step' hq; have S6 := Lib.hid k4; have y0 := x4.cell v0 S5.out.nz; have y1 := x4.cell v1 S5.out.nz; have y2 := x4.cell v2 S5.out.nz; have y3 := x4.cell v3 S5.out.nz; clear hq k4 x4)
          | (go_at_call 56; refine (num1_ok P _ F4 nd hnd w4 S4.out.wr hb2.out).mono ?_; intro e w5 hq; obtain ⟨rfl, F5, k4, x4⟩ := S4.out.step' hq; have S5 := Lib.hid k4; have v0 := x4.cell y0 S4.out.nz; have v1 := x4.cell y1 S4.out.nz; have v2 := x4.cell y2 S4.out.nz; have v3 := x4.cell y3 S4.out.nz; clear hq k4 x4)
          | (go_at_call 57; refine (text_ok P _ F6 ra rnn rc rb w6 S6.out.wr (Y1.out.ext S6.out.ext (fun _ _ h => h)) (fun j hj h => Nat.lt_irrefl _ (Nat.lt_of_lt_of_le (hra.out j hj) (S6.out.far j h))) hb4.out).mono ?_; intro e w7 hq; obtain ⟨rfl, F7, k4, x4⟩ := S6.out.step' hq; have S7 := Lib.hid k4; have t0 := x4.cell y0 S6.out.nz; have t1 := x4.cell y1 S6.out.nz; have t2 := x4.cell y2 S6.out.nz; have t3 := x4.cell y3 S6.out.nz; clear hq k4 x4))
      have K7 : Hid (Writer w7 P (countB L.length ++ rowsB 0 (L.take (k + 1))) F7) := by
        have := S7.out.wr
        show Writer _ _ _ _
        rw [HSP.out]
        simpa using this
      have HE7 := Lib.hid S7.out.ext
      have HF7 := Lib.hid S7.out.far
      clear S1 S4 S5 S6 S7 b0 b1 b2 b3
      go_wp2_with fail
      go_roundw
      case rel => exact ⟨k + 1, F7, by rw [HLS.out], by go_num, by omega, K7.out, HF7.out, HE7.out⟩
      case measure => simp [intOf]; omega
    · have hke : k = L.length := by omega
      have hki : ¬ (k : Int) < L.length := by omega
      have W5 : Hid (Writer wr P (viewB L) F1) := by
        have := HW.out
        rw [hke, List.take_length] at this
        exact this
      have hbg := viewB_len L HG.out
      have HBG : Hid ((viewB L).length ≤ big) := by show _ ≤ _; omega
      clear hke hbg
      go_wp2_with fail
      refine (wbytes_ok P (viewB L) F1 wr W5.out HBG.out).mono ?_
      rintro e w4 ⟨v, rfl, g1, g2, g3⟩
      have K1 := Lib.hid g1
      have K2 := Lib.hid g2
      have K3 := Lib.hid g3
      clear g1 g2 g3
      go_wp2_with fail
      go_ret
      exact ⟨v, rfl, K1.out, HE.out.trans' K2.out, fun j hj => Nat.le_trans HE.out.size (K3.out j hj)⟩

set_option maxRecDepth 20000 in
set_option maxHeartbeats 1000000 in
theorem vsum_ok (p : Nat) (L : List RowS) (F : Nat → Prop) (w : World) (hv : ViewAt w p L F) (hg : GoodV L) (hG : Laid w) :
    Calls Tryd.prog 18 #[.pointer (some ⟨p, 0, none⟩)] w fun e w' => e = .returned (.agg ((shaB (viewB L)).map byt).toArray) ∧ Ext nob w w' := by
  have hone : ((shaB (viewB L)).map byt).toArray.all (·.oneCell') = true := by
    have := D32_one (shaB (viewB L))
    rwa [D32_full (shaB (viewB L)) (digest_len _ 32)] at this
  have hs := shaB_size (viewB L)
  obtain ⟨D, hD⟩ : ∃ D, ((shaB (viewB L)).map byt).toArray = D := ⟨_, rfl⟩
  rw [hD] at hone hs ⊢
  have hsz : (Tryd.prog.info? 38).map (·.size) = some D.size := by rw [hs]; kernel_rfl
  have hlen := viewB_len L hg
  have hlt : p < w.heap.size := by obtain ⟨v, xs, h1, -⟩ := hv; exact blk_lt h1
  have HSZ := Lib.hid hsz
  have HONE := Lib.hid hone
  have HS := Lib.hid hs
  have HDD := Lib.hid hD
  have HV := Lib.hid hv
  have HGV := Lib.hid hg
  have HG := Lib.hid hG
  have HL := Lib.hid hlen
  clear hsz hone hs hD hv hg hG hlen
  go_enter Tryd.func18, Tryd.ntmps18
  go_wp2_with fail
  refine (none_ok p L F _ (HV.out.ext ((Ext.refl nob w).alloc _) (fun _ _ h => h))).mono ?_
  rintro e w1 ⟨rfl, rfl⟩
  go_wp2_with fail
  refine (vbytes_ok p L F _ (HV.out.ext ((Ext.refl nob w).alloc _) (fun _ _ h => h)) HGV.out).mono ?_
  rintro e w1 ⟨v, rfl, g1, g2, g3⟩
  obtain ⟨av, cv, rfl, q1, -, -, -⟩ := Own.shape g1
  have hout := g2.blk (blk_new w _) (fun h => h)
  have HO := Lib.hid hout
  have HE1 : Hid (Ext nob w w1) := ((Ext.refl nob w).alloc _).trans' g2
  have HB : Hid (Bytes w1 av (viewB L).length (viewB L)) := ⟨rfl, q1⟩
  clear g1 g2 g3 hout q1
  go_wp2_with fail
  refine (sha_ok av _ cv (viewB L) w1 HB.out (HG.out.ext HE1.out (fun h => h) (fun h => h)) (by have := HL.out; omega)).mono ?_
  rintro e w2 ⟨rfl, g2⟩
  have hout2 := g2.blk HO.out (fun h => h)
  have HO2 := Lib.hid hout2
  have HE2 : Hid (Ext nob w w2) := HE1.out.trans' g2
  rw [HDD.out]
  clear g2 hout2
  go_wp2_with (refine wpList_store_row rfl 38 (.tmp 2) (.tmp 8) rfl w.heap.size D rfl rfl _ _ HO2.out HSZ.out HS.out.symm HONE.out ?_)
  refine ret_row 2 38 rfl w.heap.size rfl 38 D (0, 0) (setRow_heap _ _ _ _ _ _ HO2.out) _ Tryd.underlying38 rfl HSZ.out rfl ⟨rfl, HE2.out.setRow _ _ (fun h => absurd h (by omega))⟩
end Go.Proofs.YtfgfhfmhadondaaDoor
