/- sealchainlaw10.MarkLasts: the walk. -/
import Derived.Test.YtfgfhfmhadondaaDoorLastP
import Derived.Test.YtfgfhfmhadondaaDoorMOpen
import Derived.Deep.CutBlock
import Derived.Deep.DeepCutAuto
import Derived.Deep.RegionHeld3
import Derived.BigQuiet
import Derived.Laws.StructEq
import Derived.Stop.BytesEq
namespace Go.Proofs.YtfgfhfmhadondaaDoor
open Go.RowKit Go.Maps
set_option maxHeartbeats 400000

def intV (z : Nat) : Value := .int .i64 (z : Int)
theorem mnew_far2 (w : World) : Calls Tryd.prog 26 #[] w fun e w' => ∃ p b, e = .returned (.pointer (some ⟨p, 0, none⟩)) ∧ MarksAt w' p b 0 0 D0 ∧ Ext nob w w' ∧ w.heap.size ≤ p ∧ w.heap.size ≤ b := by
  refine (mnew_ok w).mono ?_
  rintro e w' ⟨rfl, h1, h2⟩
  exact ⟨_, _, rfl, h1, h2, Nat.le_succ _, Nat.le_refl _⟩

theorem mver_nat2 (p b life epoch : Nat) (D : DataW Unit) (n : List UInt8) (hn : n.length = 32) (u : Nat) (w : World) (h : MarksAt w p b life epoch D) (hu : verD D n = (u : Int)) :
    Calls Tryd.prog 34 #[.pointer (some ⟨p, 0, none⟩), nameV n] w fun e w' => e = .returned (.int .i64 (u : Int)) ∧ Ext nob w w' := by
  rw [← hu]
  exact mversion_ok p b life epoch D n hn w h
theorem ents_len : ∀ {E : List Ent}, (∀ e ∈ E, e.fine) → (E.flatMap Ent.b).length ≤ E.length * 74
  | [], _ => by simp
  | e :: t, h => by
    have h1 := h e List.mem_cons_self
    have h2 := ents_len (E := t) (fun x hx => h x (List.mem_cons_of_mem _ hx))
    have h3 := countB_len e.v
    have h4 : e.b.length = 64 + (countB e.v).length := by
      unfold Ent.b
      simp only [List.length_append]
      rw [h1.1, h1.2.1]
      omega
    rw [List.flatMap_cons, List.length_append, List.length_cons, h4]
    omega
theorem encB_len {E : List Ent} (h : ∀ e ∈ E, e.fine) (hl : E.length ≤ 64) (life epoch : Nat) : (encB life epoch E).length ≤ 5000 := by
  have h1 := ents_len h
  have h2 := countB_len life
  have h3 := countB_len E.length
  unfold encB
  simp only [List.length_append, List.length_cons, List.length_nil]
  omega
theorem cell_row {w : World} {tb : Nat} {T : TypeId} {ts : List Nat} {k t : Nat} (h : w.heap[tb]? = some (.cells (ts.map intV).toArray T (0, 0))) (hk : ts[k]? = some t) : w.cell? ⟨tb, k, none⟩ = some (.int .i64 (t : Int)) :=
  cell_of' h (by simp [hk, intV])
theorem row_set {w : World} {tb : Nat} {T : TypeId} {ts : List Nat} (h : w.heap[tb]? = some (.cells (ts.map intV).toArray T (0, 0))) (k v : Nat) : (w.setCell ⟨tb, k, none⟩ (.int .i64 (v : Int))).heap[tb]? = some (.cells ((ts.set k v).map intV).toArray T (0, 0)) := by
  have := blk_set h k (.int .i64 (v : Int))
  rw [this]
  simp [List.map_set, intV]

set_option linter.unusedSimpArgs false in
set_option maxRecDepth 20000 in
set_option maxHeartbeats 8000000 in
theorem markLasts_ok (ao : Option Addr) (n c : Nat) (xs : List Trip) (w : World) (hx : TripsAt w ao n xs) (hn : n < 4611686018427387904) (hG : Laid w) :
    Calls Tryd.prog 5 #[.slice ao n c] w fun e w' => e = .returned (.bool true) ∧ Ext nob w w' := by
  have HX := Lib.hid hx
  have HN := Lib.hid hn
  have HG := Lib.hid hG
  have hxl : xs.length = n := hx.1
  clear hx hn hG
  have hu60 := Tryd.underlying60
  go_enter Tryd.func5, Tryd.ntmps5
  go_wp2_with fail
  refine (works10_ok _ HG.out).mono ?_
  rintro e w1 ⟨rfl, e1⟩
  have E1 := Lib.hid e1
  clear e1
  go_wp2_with fail
  refine (mnew_far2 _).mono ?_
  rintro e w2 ⟨p0, b0, rfl, m2, e2, hp2, hb2⟩
  have M2 := Lib.hid m2
  have E2 : Hid (Ext nob w w2) := E1.out.trans' e2
  have HPB : Hid (w.heap.size ≤ p0 ∧ w.heap.size ≤ b0) := by have := E1.out.size; exact ⟨by omega, by omega⟩
  clear m2 e2 hp2 hb2 E1
  go_upto_region 5 with fail
  try simp only [Act.put, List.setIfInBounds_toArray, List.set_cons_zero, List.set_cons_succ]
  obtain ⟨tb, htb⟩ : ∃ tb, tb = w2.heap.size := ⟨_, rfl⟩
  obtain ⟨wb, hwb⟩ : ∃ wb, wb = w2.heap.size + 1 := ⟨_, rfl⟩
  obtain ⟨W, hW⟩ : ∃ W, W = (w2.alloc (.cells ((List.replicate 10 0).map intV).toArray 55)).alloc (.cells ((List.replicate 10 0).map intV).toArray 55) := ⟨_, rfl⟩
  have kt : W.heap[tb]? = some (.cells ((List.replicate 10 0).map intV).toArray 55 (0, 0)) := by rw [hW, htb]; exact blk_alloc (blk_new w2 _) _
  have kw : W.heap[wb]? = some (.cells ((List.replicate 10 0).map intV).toArray 55 (0, 0)) := by rw [hW, hwb]; exact mblk1 w2 _ _
  have EW : Hid (Ext nob w2 W) := by rw [hW]; exact ((Ext.refl nob w2).alloc _).alloc _
  have HTW : Hid (tb ≠ wb ∧ tb ≠ p0 ∧ tb ≠ b0 ∧ wb ≠ p0 ∧ wb ≠ b0 ∧ w.heap.size ≤ tb ∧ w.heap.size ≤ wb) := by
    have h1 := blk_lt M2.out.1
    have h2 := M2.out.2.1.lt
    have h3 := E2.out.size
    rw [htb, hwb]
    exact ⟨by omega, by omega, by omega, by omega, by omega, by omega, by omega⟩
  have KT := Lib.hid kt
  have KW := Lib.hid kw
  change Code.wp _ _ _ _ ((w2.alloc (.cells ((List.replicate 10 0).map intV).toArray 55)).alloc (.cells ((List.replicate 10 0).map intV).toArray 55))
  rw [← hW, ← hwb, ← htb]
  have MW : Hid (MarksAt W p0 b0 0 0 D0) := M2.out.ext EW.out (fun h => h) (fun h => h)
  have EWW : Hid (Ext nob w W) := E2.out.trans' EW.out
  clear hW htb hwb kt kw M2 E2 EW
  go_wp2_with fail
  go_loopw [3, 6] (fun m i wr => ∃ (q p b : Nat) (D : DataW Unit) (E : List Ent) (ts ws : List Nat), m = .pointer (some ⟨p, 0, none⟩) ∧ i = .int .i64 (q : Int) ∧ q ≤ n ∧ q ≤ 80 ∧ MarksAt wr p b 0 0 D ∧ LP D E ts ws ∧ wr.heap[tb]? = some (.cells (ts.map intV).toArray 55 (0, 0)) ∧ wr.heap[wb]? = some (.cells (ws.map intV).toArray 55 (0, 0)) ∧
      (tb ≠ p ∧ tb ≠ b ∧ wb ≠ p ∧ wb ≠ b ∧ w.heap.size ≤ p ∧ w.heap.size ≤ b) ∧ Ext nob w wr) (fun _ i _ => n - (intOf i).toNat)
  case atStart => exact ⟨0, p0, b0, D0, [], _, _, rfl, rfl, by omega, by omega, MW.out, lp0, KT.out, KW.out, ⟨HTW.out.2.1, HTW.out.2.2.1, HTW.out.2.2.2.1, HTW.out.2.2.2.2.1, HPB.out⟩, EWW.out⟩
  case round =>
    obtain ⟨q, p, b, D, E, ts, ws, rfl, rfl, hk, hk8, hm, hl, ht, hw, hd, he⟩ := hrel
    have HM := Lib.hid hm
    have HL := Lib.hid hl
    have HT := Lib.hid ht
    have HW := Lib.hid hw
    have HD := Lib.hid hd
    have HE := Lib.hid he
    have hb : n < 4611686018427387904 := HN.out
    clear hm hl ht hw hd he
    by_cases hkn : q < n
    · by_cases hk2 : q < 80
      · have hki : (q : Int) < n := by omega
        have hki2 : (q : Int) < 80 := by omega
        obtain ⟨r, hr⟩ : ∃ r, xs[q]? = some r := ⟨xs[q]'(by omega), List.getElem?_eq_getElem _⟩
        obtain ⟨x1, x2⟩ := HX.out.ext HE.out (fun _ _ h => h)
        have hne : xs.flatMap tripC ≠ [] := fun h => by have := flat_len tripC 3 (fun _ => rfl) xs; rw [h] at this; simp at this; omega
        obtain ⟨g, o, rfl⟩ := x2.addr hne
        obtain ⟨c0, c1, c2⟩ := trip_cells x2 q r hr
        have hg : g < wr.heap.size := World.block_lt_of_cell? wr _ c0
        obtain ⟨k, hk0⟩ : ∃ j : Nat, r.1 % ((10 : Nat) : Int) = (j : Int) := ⟨(r.1 % 10).toNat, by omega⟩
        obtain ⟨v, hv0⟩ : ∃ j : Nat, r.2.1 % ((12 : Nat) : Int) = (j : Int) := ⟨(r.2.1 % 12).toNat, by omega⟩
        obtain ⟨x, hx0⟩ : ∃ j : Nat, r.2.2 % ((3 : Nat) : Int) = (j : Int) := ⟨(r.2.2 % 3).toNat, by omega⟩
        have hkl : k < 10 := by omega
        have hvl : v < 12 := by omega
        have hxl3 : x < 3 := by omega
        have HB0 := Lib.hid hk0
        have HB1 := Lib.hid hv0
        have HB2 := Lib.hid hx0
        obtain ⟨t, htk⟩ : ∃ t, ts[k]? = some t := ⟨ts[k]'(by rw [HL.out.tl]; exact hkl), List.getElem?_eq_getElem _⟩
        obtain ⟨u, huk⟩ : ∃ u, ws[k]? = some u := ⟨ws[k]'(by rw [HL.out.wl]; exact hkl), List.getElem?_eq_getElem _⟩
        have HTK := Lib.hid htk
        have HUK := Lib.hid huk
        have hu3 : Hid (u < 3) := by
          obtain ⟨h1, h2⟩ := List.getElem?_eq_some_iff.1 huk
          have := HL.out.small k hkl
          rw [h2] at this
          exact this
        clear hne x1 x2 hr hk0 hv0 hx0 htk huk
        go_wp2_with fail
        refine wp_region_held_drew (S := (fun w' => w'.cell? ⟨g, o + q * 3, none⟩ = some (.int .i64 r.1) ∧ w'.cell? ⟨g, o + q * 3 + 1, none⟩ = some (.int .i64 r.2.1) ∧ w'.cell? ⟨g, o + q * 3 + 2, none⟩ = some (.int .i64 r.2.2))) (by kernel_rfl) ⟨(Ext.refl nob wr).drew.cell c0 (fun h => h), (Ext.refl nob wr).drew.cell c1 (fun h => h), (Ext.refl nob wr).drew.cell c2 (fun h => h)⟩ (fun hHeld => ?_)
        refine wpAnyH_take (i := 0) (v := ?_) rfl (by kernel_rfl) (by kernel_rfl) (by kernel_rfl) (fun _ _ _ h => h) (Or.inl ⟨by rfl, ?_⟩) (by assumption) ?_
        rotate_left
        · intro w hSw; (try dsimp only at hSw); go_simp; try with_reducible rfl
        try simp only [Act.put, List.setIfInBounds_toArray, List.set_cons_zero, List.set_cons_succ]
        refine wpAnyH_take (i := 1) (v := ?_) rfl (by kernel_rfl) (by kernel_rfl) (by kernel_rfl) (fun _ _ _ h => h) (Or.inl ⟨by rfl, ?_⟩) (by assumption) ?_
        rotate_left
        · intro w hSw; (try dsimp only at hSw); go_simp; try with_reducible rfl
        try simp only [Act.put, List.setIfInBounds_toArray, List.set_cons_zero, List.set_cons_succ]
        refine wpAnyH_take (i := 2) (v := ?_) rfl (by kernel_rfl) (by kernel_rfl) (by kernel_rfl) (fun _ _ _ h => h) (Or.inl ⟨by rfl, ?_⟩) (by assumption) ?_
        rotate_left
        · intro w hSw; (try dsimp only at hSw); go_simp; try with_reducible rfl
        try simp only [Act.put, List.setIfInBounds_toArray, List.set_cons_zero, List.set_cons_succ]
        refine wpAnyH_take (i := 3) (v := ?_) rfl (by kernel_rfl) (by kernel_rfl) (by kernel_rfl) (fun _ _ _ h => h) (Or.inl ⟨by rfl, ?_⟩) (by assumption) ?_
        rotate_left
        · intro w hSw; (try dsimp only at hSw); go_simp; try with_reducible rfl
        try simp only [Act.put, List.setIfInBounds_toArray, List.set_cons_zero, List.set_cons_succ]
        refine wpAnyH_take (i := 4) (v := ?_) rfl (by kernel_rfl) (by kernel_rfl) (by kernel_rfl) (fun _ _ _ h => h) (Or.inl ⟨by rfl, ?_⟩) (by assumption) ?_
        rotate_left
        · intro w hSw; (try dsimp only at hSw); go_simp; try with_reducible rfl
        try simp only [Act.put, List.setIfInBounds_toArray, List.set_cons_zero, List.set_cons_succ]
        refine wpAnyH_take (i := 6) (v := ?_) rfl (by kernel_rfl) (by kernel_rfl) (by kernel_rfl) (fun _ _ _ h => h) (Or.inl ⟨by rfl, ?_⟩) (by assumption) ?_
        rotate_left
        · intro w hSw; (try dsimp only at hSw); go_simp; try with_reducible rfl
        try simp only [Act.put, List.setIfInBounds_toArray, List.set_cons_zero, List.set_cons_succ]
        refine wpAnyH_take (i := 7) (v := ?_) rfl (by kernel_rfl) (by kernel_rfl) (by kernel_rfl) (fun _ _ _ h => h) (Or.inl ⟨by rfl, ?_⟩) (by assumption) ?_
        rotate_left
        · intro w hSw; (try dsimp only at hSw); go_simp; try with_reducible rfl
        try simp only [Act.put, List.setIfInBounds_toArray, List.set_cons_zero, List.set_cons_succ]
        refine wpAnyH_take (i := 8) (v := ?_) rfl (by kernel_rfl) (by kernel_rfl) (by kernel_rfl) (fun _ _ _ h => h) (Or.inl ⟨by rfl, ?_⟩) (by assumption) ?_
        rotate_left
        · intro w hSw; (try dsimp only at hSw); go_simp; try with_reducible rfl
        try simp only [Act.put, List.setIfInBounds_toArray, List.set_cons_zero, List.set_cons_succ]
        refine wpAnyH_take (i := 9) (v := ?_) rfl (by kernel_rfl) (by kernel_rfl) (by kernel_rfl) (fun _ _ _ h => h) (Or.inl ⟨by rfl, ?_⟩) (by assumption) ?_
        rotate_left
        · intro w hSw; (try dsimp only at hSw); go_simp; try with_reducible rfl
        try simp only [Act.put, List.setIfInBounds_toArray, List.set_cons_zero, List.set_cons_succ]
        refine wpAnyH_take (i := 10) (v := ?_) rfl (by kernel_rfl) (by kernel_rfl) (by kernel_rfl) (fun _ _ _ h => h) (Or.inl ⟨by rfl, ?_⟩) (by assumption) ?_
        rotate_left
        · intro w hSw; (try dsimp only at hSw); go_simp; try with_reducible rfl
        try simp only [Act.put, List.setIfInBounds_toArray, List.set_cons_zero, List.set_cons_succ]
        refine wpAnyH_take (i := 12) (v := ?_) rfl (by kernel_rfl) (by kernel_rfl) (by kernel_rfl) (fun _ _ _ h => h) (Or.inl ⟨by rfl, ?_⟩) (by assumption) ?_
        rotate_left
        · intro w hSw; (try dsimp only at hSw); go_simp; try with_reducible rfl
        try simp only [Act.put, List.setIfInBounds_toArray, List.set_cons_zero, List.set_cons_succ]
        refine wpAnyH_take (i := 13) (v := ?_) rfl (by kernel_rfl) (by kernel_rfl) (by kernel_rfl) (fun _ _ _ h => h) (Or.inl ⟨by rfl, ?_⟩) (by assumption) ?_
        rotate_left
        · intro w hSw; (try dsimp only at hSw); go_simp; try with_reducible rfl
        try simp only [Act.put, List.setIfInBounds_toArray, List.set_cons_zero, List.set_cons_succ]
        refine wpAnyH_take (i := 14) (v := ?_) rfl (by kernel_rfl) (by kernel_rfl) (by kernel_rfl) (fun _ _ _ h => h) (Or.inl ⟨by rfl, ?_⟩) (by assumption) ?_
        rotate_left
        · intro w hSw; (try dsimp only at hSw); go_simp; try with_reducible rfl
        try simp only [Act.put, List.setIfInBounds_toArray, List.set_cons_zero, List.set_cons_succ]
        refine wpAnyH_take (i := 15) (v := ?_) rfl (by kernel_rfl) (by kernel_rfl) (by kernel_rfl) (fun _ _ _ h => h) (Or.inl ⟨by rfl, ?_⟩) (by assumption) ?_
        rotate_left
        · intro w hSw; (try dsimp only at hSw); go_simp; try with_reducible rfl
        try simp only [Act.put, List.setIfInBounds_toArray, List.set_cons_zero, List.set_cons_succ]
        refine wpAnyH_take (i := 16) (v := ?_) rfl (by kernel_rfl) (by kernel_rfl) (by kernel_rfl) (fun _ _ _ h => h) (Or.inl ⟨by rfl, ?_⟩) (by assumption) ?_
        rotate_left
        · intro w hSw; (try dsimp only at hSw); go_simp; try with_reducible rfl
        try simp only [Act.put, List.setIfInBounds_toArray, List.set_cons_zero, List.set_cons_succ]
        refine wpAnyH_ready (rs := [5]) (by kernel_rfl) (by simp) ?_
        refine AllReadyH.cons rfl (fun K hK => ?_) AllReadyH.nil
        go_simp
        go_at_call 14
        refine (bring_nat _ 10 _ rfl (by omega) (by omega) k HB0.out _).mono ?_
        rintro e w2 ⟨rfl, rfl⟩
        go_wp2_with fail
        refine hK.out _ _ (hHeld) (fun hHeld => ?_)
        clear hK K
        try simp only [Act.put, List.setIfInBounds_toArray, List.set_cons_zero, List.set_cons_succ]
        refine wpAnyH_ready (rs := [11]) (by kernel_rfl) (by simp) ?_
        refine AllReadyH.cons rfl (fun K hK => ?_) AllReadyH.nil
        go_simp
        go_at_call 14
        refine (bring_nat _ 12 _ rfl (by omega) (by omega) v HB1.out _).mono ?_
        rintro e w2 ⟨rfl, rfl⟩
        go_wp2_with fail
        refine hK.out _ _ (hHeld) (fun hHeld => ?_)
        clear hK K
        try simp only [Act.put, List.setIfInBounds_toArray, List.set_cons_zero, List.set_cons_succ]
        refine wpAnyH_ready (rs := [17]) (by kernel_rfl) (by simp) ?_
        refine AllReadyH.cons rfl (fun K hK => ?_) AllReadyH.nil
        go_simp
        go_at_call 14
        refine (bring_nat _ 3 _ rfl (by omega) (by omega) x HB2.out _).mono ?_
        rintro e w2 ⟨rfl, rfl⟩
        go_wp2_with fail
        refine hK.out _ _ (hHeld) (fun hHeld => ?_)
        clear hK K
        try simp only [Act.put, List.setIfInBounds_toArray, List.set_cons_zero, List.set_cons_succ]
        refine wpAnyH_take (i := 18) (v := ?_) rfl (by kernel_rfl) (by kernel_rfl) (by kernel_rfl) (fun _ _ _ h => h) (Or.inl ⟨by rfl, ?_⟩) (by assumption) ?_
        rotate_left
        · intro w hSw; (try dsimp only at hSw); go_simp; try with_reducible rfl
        try simp only [Act.put, List.setIfInBounds_toArray, List.set_cons_zero, List.set_cons_succ]
        refine wpAnyH_take (i := 19) (v := ?_) rfl (by kernel_rfl) (by kernel_rfl) (by kernel_rfl) (fun _ _ _ h => h) (Or.inl ⟨by rfl, ?_⟩) (by assumption) ?_
        rotate_left
        · intro w hSw; (try dsimp only at hSw); go_simp; try with_reducible rfl
        try simp only [Act.put, List.setIfInBounds_toArray, List.set_cons_zero, List.set_cons_succ]
        refine wpAnyH_take (i := 20) (v := ?_) rfl (by kernel_rfl) (by kernel_rfl) (by kernel_rfl) (fun _ _ _ h => h) (Or.inl ⟨by rfl, ?_⟩) (by assumption) ?_
        rotate_left
        · intro w hSw; (try dsimp only at hSw); go_simp; try with_reducible rfl
        try simp only [Act.put, List.setIfInBounds_toArray, List.set_cons_zero, List.set_cons_succ]
        try simp only [List.getElem_toArray, List.getElem_cons_succ, List.getElem_cons_zero, Act.put, List.setIfInBounds_toArray, List.set_cons_zero, List.set_cons_succ]
        refine wpAnyH_done (by kernel_rfl) ?_ _
        obtain ⟨wd, hwd⟩ : ∃ wd, wd = wr.drew := ⟨_, rfl⟩
        have ED : Hid (Ext nob wr wd) := by rw [hwd]; exact (Ext.refl nob wr).drew
        rw [← hwd]
        clear hwd hHeld c0 c1 c2 hg
        go_wp2_with fail
        refine (env_any _ _).mono ?_
        rintro e w4 ⟨ge, rfl, b4, e4, -⟩
        have B4 := Lib.hid b4
        have E4 : Hid (Ext nob wr w4) := ED.out.trans' e4
        clear b4 e4 ED
        go_upto_if 49 with fail
        go_cut [10] (fun s10 wx => ∃ (bo : Option Addr) (bn : Nat), s10 = .slice bo bn bn ∧ Bytes wx bo bn (bB v x) ∧ bn ≤ 3 ∧ w4 = wx)
        case first =>
          by_cases hv0 : v = 0
          · have hq0 : ((v : Int) == 0) = true := by rw [hv0]; rfl
            have HV0 := Lib.hid hv0
            clear hv0
            go_wp2_with fail
            go_meet
            exact ⟨none, 0, rfl, by rw [show bB v x = [] by unfold bB; rw [if_pos HV0.out]]; exact Bytes.nil _ _, by omega, rfl⟩
          · have hq0 : ((v : Int) == 0) = false := by simp [hv0]
            have HV0 := Lib.hid hv0
            clear hv0
            go_wp2_with fail
            go_meet
            exact ⟨_, 3, rfl, by rw [show bB v x = envB (x : Int) by unfold bB; rw [if_neg HV0.out]]; exact B4.out, by omega, rfl⟩
        case rest =>
          obtain ⟨bo, bn, rfl, hbb, hbn, rfl⟩ := hcut
          have BB := Lib.hid hbb
          clear hbb
          have HT4 := Lib.hid (E4.out.blk HT.out (fun h => h))
          have HW4 := Lib.hid (E4.out.blk HW.out (fun h => h))
          have HM4 : Hid (MarksAt w4 p b 0 0 D) := HM.out.ext E4.out (fun h => h) (fun h => h)
          have HE4 : Hid (Ext nob w w4) := HE.out.trans' E4.out
          have hkli : (k : Int) < 10 := by omega
          obtain ⟨wv, hwv⟩ : ∃ wv, wv = wantE t u v x := ⟨_, rfl⟩
          have HWV := Lib.hid hwv
          clear hwv B4
          go_upto_block 2 with fail
          go_cut [11] (fun s11 wx => s11 = .int .i64 (wv : Int) ∧ Ext nob w4 wx)
          case first =>
            have ct := cell_row HT4.out HTK.out
            have cu := cell_row HW4.out HUK.out
            have htl : tb < w4.heap.size := blk_lt HT4.out
            have hwl : wb < w4.heap.size := blk_lt HW4.out
            by_cases h1 : v < t
            · have hw : wv = 100 := by rw [HWV.out]; unfold wantE; rw [if_pos h1]
              have HWW := Lib.hid hw
              clear hw
              go_wp2_with fail
              go_meet
              exact ⟨by rw [HWW.out]; rfl, Ext.refl _ _⟩
            · have HS15 : Hid (∀ w', Ext nob w4 w' → (fun w' => w'.cell? ⟨tb, k, none⟩ = some (.int .i64 (t : Int)) ∧ w'.cell? ⟨wb, k, none⟩ = some (.int .i64 (u : Int))) w') := fun w' e => ⟨e.cell ct (fun h => h), e.cell cu (fun h => h)⟩
              by_cases h2 : v = t
              · have hq2 : ((v : Int) == (t : Int)) = true := by rw [h2]; simp
                by_cases h3 : 0 < v
                · have hd3 : decide (0 < v) = true := by simpa using h3
                  by_cases h4 : x = u
                  · have hq4 : ((x : Int) != (u : Int)) = false := by rw [h4]; simp
                    have hw : wv = 0 := by rw [HWV.out]; unfold wantE; rw [if_neg h1, if_neg (fun h => h.2.2.1 h4)]
                    have HWW := Lib.hid hw
                    clear hw h2 h4
                    go_wp2_with fail
                    go_quiet (fail)
                    go_wp2_with fail
                    go_meet
                    exact ⟨by rw [HWW.out]; rfl, (Ext.refl nob w4).drewN _⟩
                  · have hq4 : ((x : Int) != (u : Int)) = true := by simp; omega
                    have hqa : (x != u) = true := by simp; omega
                    have hqb : (x == u) = false := by simp; omega
                    have hqc : decide (x = u) = false := by simp; omega
                    have hqd : ((x : Int) == (u : Int)) = false := by simp; omega
                    have hqe : decide ((x : Int) = (u : Int)) = false := by simp; omega
                    obtain ⟨S1, hS1⟩ : ∃ S, S = ((shaB (envB (x : Int))).map byt).toArray := ⟨_, rfl⟩
                    obtain ⟨S2, hS2⟩ : ∃ S, S = ((shaB (envB (u : Int))).map byt).toArray := ⟨_, rfl⟩
                    have hq : ∀ w, (Op.equalIn 10000 38 (.agg S1) (.agg S2)).run Tryd.prog w = .ok (shaB (envB (x : Int)) == shaB (envB (u : Int))) w := fun w => by
                      rw [hS1, hS2]
                      exact run_equalIn_bytes (P := Tryd.prog) w 9998 38 5 32 Tryd.underlying38 Tryd.underlying5 (fun _ => by kernel_rfl) (shaB (envB (x : Int))) (shaB (envB (u : Int))) (digest_len _ 32) (digest_len _ 32)
                    obtain ⟨bb, hbb⟩ : ∃ bb, bb = (shaB (envB (x : Int)) == shaB (envB (u : Int))) := ⟨_, rfl⟩
                    rw [← hbb] at hq
                    have hm : Tryd.prog.eqGuardType Tryd.prog.depth 38 = false := by kernel_rfl
                    have hw : wv = if bb = true then 0 else 101 := by
                      rw [HWV.out]; unfold wantE; rw [if_neg h1]
                      by_cases hbt : bb = true
                      · rw [if_pos hbt, if_neg]
                        rintro ⟨-, -, -, h⟩
                        rw [hbt] at hbb
                        exact h (by simpa using hbb.symm)
                      · rw [if_neg hbt, if_pos]
                        refine ⟨h2, h3, h4, fun h => hbt ?_⟩
                        rw [hbb, h]
                        simp
                    have HWW := Lib.hid hw
                    have HS1 := Lib.hid hS1
                    have HS2 := Lib.hid hS2
                    clear hw hS1 hS2 hbb h2
                    go_wp2_with fail
                    go_region_held3 (fun w' => w'.cell? ⟨tb, k, none⟩ = some (.int .i64 (t : Int)) ∧ w'.cell? ⟨wb, k, none⟩ = some (.int .i64 (u : Int))) (first | with_reducible exact HS15.out _ Y4.out | with_reducible exact HS15.out _ Y3.out | with_reducible exact HS15.out _ Y2.out | with_reducible exact HS15.out _ Y1.out | with_reducible exact HS15.out _ (Ext.refl nob w4).drew)
                      (first
                        | (have _ := Y3; go_at_call 28; refine (sha_ok _ 3 3 (envB (u : Int)) _ Z3.out (HG.out.ext (HE4.out.trans' Y3.out) (fun h => h) (fun h => h)) (by simp [big])).mono ?_; rw [← HS2.out]; rintro e w8 ⟨rfl, g8⟩; have Y4 : Hid (Ext nob w4 w8) := Y3.out.trans' g8; clear g8)
                        | (have _ := Y2; go_at_call 27; refine (env_any (u : Int) _).mono ?_; rintro e w7 ⟨ge2, rfl, b7, g7, -⟩; have Z3 := Lib.hid b7; have Y3 : Hid (Ext nob w4 w7) := Y2.out.trans' g7; clear b7 g7)
                        | (have _ := Y1; go_at_call 28; refine (sha_ok _ 3 3 (envB (x : Int)) _ Z1.out (HG.out.ext (HE4.out.trans' Y1.out) (fun h => h) (fun h => h)) (by simp [big])).mono ?_; rw [← HS1.out]; rintro e w6 ⟨rfl, g6⟩; have Y2 : Hid (Ext nob w4 w6) := Y1.out.trans' g6; clear g6)
                        | (go_at_call 27; refine (env_any (x : Int) _).mono ?_; rintro e w5 ⟨ge1, rfl, b5, g5, -⟩; have Z1 := Lib.hid b5; have Y1 : Hid (Ext nob w4 w5) := (Ext.refl nob w4).drew.trans' g5; clear b5 g5))
                    clear hq
                    cases bb with
                    | true =>
                      go_wp2_with fail
                      go_meet
                      exact ⟨by rw [HWW.out]; rfl, Y4.out⟩
                    | false =>
                      go_wp2_with fail
                      go_meet
                      exact ⟨by rw [HWW.out]; rfl, Y4.out⟩
                · have hd3 : decide (0 < v) = false := by simpa using h3
                  have hw : wv = 0 := by rw [HWV.out]; unfold wantE; rw [if_neg h1, if_neg (fun h => h3 h.2.1)]
                  have HWW := Lib.hid hw
                  clear hw h2 h3
                  go_wp2_with fail
                  go_quiet (fail)
                  go_wp2_with fail
                  go_meet
                  exact ⟨by rw [HWW.out]; rfl, (Ext.refl nob w4).drewN _⟩
              · have hq2 : ((v : Int) == (t : Int)) = false := by simp; omega
                have hw : wv = 0 := by rw [HWV.out]; unfold wantE; rw [if_neg h1, if_neg (fun h => h2 h.1)]
                have HWW := Lib.hid hw
                clear hw h2
                go_wp2_with fail
                go_quiet (fail)
                go_wp2_with fail
                go_meet
                exact ⟨by rw [HWW.out]; rfl, (Ext.refl nob w4).drewN _⟩
          case rest =>
            obtain ⟨rfl, ec⟩ := hcut
            obtain ⟨hj, hno, E', hl'⟩ := HL.out.note hkl hvl hxl3 HTK.out HUK.out
            rw [← HWV.out] at hj hno hl'
            obtain ⟨D', hD'⟩ : ∃ D', D' = noteD D (nmJ k) v (bB v x) := ⟨_, rfl⟩
            obtain ⟨ts', hts⟩ : ∃ ts', ts' = (if wv = 0 ∧ t < v then ts.set k v else ts) := ⟨_, rfl⟩
            obtain ⟨ws', hws⟩ : ∃ ws', ws' = (if wv = 0 ∧ t < v then ws.set k x else ws) := ⟨_, rfl⟩
            rw [← hD', ← hts, ← hws] at hl'
            have HJ := Lib.hid hj
            have HNO := Lib.hid hno
            have HL' := Lib.hid hl'
            have HDD := Lib.hid hD'
            have HTS := Lib.hid hts
            have HWS := Lib.hid hws
            have EC := Lib.hid ec
            have MC : Hid (MarksAt wc p b 0 0 D) := HM4.out.ext EC.out (fun h => h) (fun h => h)
            have BC : Hid (Bytes wc bo bn (bB v x)) := BB.out.ext EC.out (fun _ _ h => h)
            have TC := Lib.hid (EC.out.blk HT4.out (fun h => h))
            have WC := Lib.hid (EC.out.blk HW4.out (fun h => h))
            have EWC : Hid (Ext nob w wc) := HE4.out.trans' EC.out
            have HS64 : Hid (Maps.size D ≤ 64) := by show Maps.size D ≤ 64; rw [HL.out.enc.size]; have := HL.out.len; omega
            have hcv : IntKind.u8.wrap (k : Int) = (k : Int) := u8_small k (by omega)
            clear hj hno hl' hD' hts hws ec HM4 HE4 HT4 HW4 BB
            go_wp2_with fail
            refine (name_nat k (by omega) _).mono ?_
            rintro e w5 ⟨rfl, e5⟩
            have E5 := Lib.hid e5
            clear e5
            go_wp2_with fail
            refine (mjudge_lit p b 0 0 D (nmJ k) (nmJ_len k) v bo bn bn (bB v x) (wv : Int) _ (by rw [HJ.out]) (MC.out.ext E5.out (fun h => h) (fun h => h)) (BC.out.ext E5.out (fun _ _ h => h)) (by unfold big; omega) (HG.out.ext (EWC.out.trans' E5.out) (fun h => h) (fun h => h))).mono ?_
            rintro e w6 ⟨rfl, e6⟩
            have E6 : Hid (Ext nob wc w6) := E5.out.trans' e6
            clear e6 E5
            go_wp2_with fail
            refine (name_nat k (by omega) _).mono ?_
            rintro e w7 ⟨rfl, e7⟩
            have E7 : Hid (Ext nob wc w7) := E6.out.trans' e7
            clear e7 E6
            go_wp2_with fail
            refine (mnote_lit p b 0 0 D D' (nmJ k) (nmJ_len k) v bo bn bn (bB v x) (wv : Int) _ (by rw [HNO.out]) HDD.out.symm (MC.out.ext E7.out (fun h => h) (fun h => h)) HS64.out (BC.out.ext E7.out (fun _ _ h => h)) (by unfold big; omega) (HG.out.ext (EWC.out.trans' E7.out) (fun h => h) (fun h => h))).mono ?_
            rintro e w8 ⟨rfl, m8, e8⟩
            have M8 := Lib.hid m8
            have T8 := Lib.hid (e8.blk (E7.out.blk TC.out (fun h => h)) (fun h => HD.out.2.1 h))
            have W8 := Lib.hid (e8.blk (E7.out.blk WC.out (fun h => h)) (fun h => HD.out.2.2.2.1 h))
            have EW8 : Hid (Ext nob w w8) := (EWC.out.trans' E7.out).trans e8 (fun i hi h => by have h1 := HD.out.2.2.2.2.2; have h2 : i = b := h; omega)
            clear m8 e8 MC BC TC WC EWC E7
            have ct := cell_row T8.out HTK.out
            have cu := cell_row W8.out HUK.out
            have ft : w8.frozen? ⟨tb, k, none⟩ = false := by simp [World.frozen?, T8.out]
            have fu : w8.frozen? ⟨wb, k, none⟩ = false := by simp [World.frozen?, W8.out]
            have htl : tb < w8.heap.size := blk_lt T8.out
            have hwl : wb < w8.heap.size := blk_lt W8.out
            have hne : tb ≠ wb := HTW.out.1
            go_upto_region 19 with fail
            go_cut [112] (fun s wx => s = .bool (decide (wv = 0 ∧ t < v)) ∧ w8 = wx)
            case first =>
              by_cases h1 : wv = 0
              · have hq1 : ((wv : Int) == 0) = true := by rw [h1]; rfl
                have HWW := Lib.hid h1
                clear h1
                by_cases h2 : t < v
                · have hq2 : decide (t < v) = true := by simpa using h2
                  have HLT := Lib.hid h2
                  clear h2
                  go_wp2_with fail
                  go_meet
                  exact ⟨by rw [decide_eq_true (show wv = 0 ∧ t < v from ⟨HWW.out, HLT.out⟩)], rfl⟩
                · have hq2 : decide (t < v) = false := by simpa using h2
                  have HLT := Lib.hid h2
                  clear h2
                  go_wp2_with fail
                  go_meet
                  exact ⟨by rw [decide_eq_false (show ¬ (wv = 0 ∧ t < v) from fun h => HLT.out h.2)], rfl⟩
              · have hq1 : ((wv : Int) == 0) = false := by simp; omega
                have HWW := Lib.hid h1
                clear h1
                go_wp2_with fail
                go_meet
                exact ⟨by rw [decide_eq_false (show ¬ (wv = 0 ∧ t < v) from fun h => HWW.out h.1)], rfl⟩
            case rest =>
              obtain ⟨rfl, rfl⟩ := hcut
              go_upto_if 112 with fail
              go_cut [11] (fun s wx => s = .int .i64 (wv : Int) ∧ wx.heap[tb]? = some (.cells (ts'.map intV).toArray 55 (0, 0)) ∧ wx.heap[wb]? = some (.cells (ws'.map intV).toArray 55 (0, 0)) ∧ Ext (fun i => i = tb ∨ i = wb) w8 wx)
              case first =>
                by_cases h1 : wv = 0 ∧ t < v
                · have hq1 : decide (wv = 0 ∧ t < v) = true := by simpa using h1
                  have HC := Lib.hid h1
                  have htt : ts' = ts.set k v := by rw [HTS.out, if_pos h1]
                  have hww : ws' = ws.set k x := by rw [HWS.out, if_pos h1]
                  have HTT := Lib.hid htt
                  have HWW := Lib.hid hww
                  clear h1 htt hww
                  rw [hq1]
                  go_wp2_with fail
                  go_meet
                  have hE : Ext (fun i => i = tb ∨ i = wb) w8 ((w8.setCell ⟨tb, k, none⟩ (.int .i64 (v : Int))).setCell ⟨wb, k, none⟩ (.int .i64 (x : Int))) := ((Ext.refl (fun i => i = tb ∨ i = wb) w8).setCell ⟨tb, k, none⟩ _ (fun _ => .inl rfl)).setCell ⟨wb, k, none⟩ _ (fun _ => .inr rfl)
                  refine ⟨rfl, ?_, ?_, hE⟩
                  · rw [HTT.out]
                    exact blk_far (row_set T8.out k v) _ _ hne
                  · rw [HWW.out]
                    exact row_set (blk_far W8.out _ _ (fun e => hne e.symm)) k x
                · have hq1 : decide (wv = 0 ∧ t < v) = false := by simpa using h1
                  have htt : ts' = ts := by rw [HTS.out, if_neg h1]
                  have hww : ws' = ws := by rw [HWS.out, if_neg h1]
                  have HTT := Lib.hid htt
                  have HWW := Lib.hid hww
                  clear h1 htt hww
                  rw [hq1]
                  go_wp2_with fail
                  go_meet
                  exact ⟨rfl, by rw [HTT.out]; exact T8.out, by rw [HWW.out]; exact W8.out, Ext.refl _ _⟩
              case rest =>
                obtain ⟨rfl, t9, u9, e9⟩ := hcut
                have T9 := Lib.hid t9
                have W9 := Lib.hid u9
                have M9 : Hid (MarksAt wc p b 0 0 D') := M8.out.ext e9 (fun h => by rcases h with h | h; exact HD.out.1 h.symm; exact HD.out.2.2.1 h.symm) (fun h => by rcases h with h | h; exact HD.out.2.1 h.symm; exact HD.out.2.2.2.1 h.symm)
                have EW9 : Hid (Ext nob w wc) := EW8.out.trans e9 (fun i hi h => by have h1 := HTW.out.2.2.2.2.2; rcases h with h | h <;> omega)
                clear t9 u9 e9 ct cu ft fu htl hwl hne T8 W8 M8 EW8
                go_upto_if 121 with fail
                go_cut [3] (fun s wx => ∃ (p' b' : Nat) (D2 : DataW Unit), s = .pointer (some ⟨p', 0, none⟩) ∧ MarksAt wx p' b' 0 0 D2 ∧ LP D2 E' ts' ws' ∧ (tb ≠ p' ∧ tb ≠ b' ∧ wb ≠ p' ∧ wb ≠ b' ∧ w.heap.size ≤ p' ∧ w.heap.size ≤ b') ∧ Ext nob wc wx)
                case first =>
                  by_cases h7 : ((q : Int) % 7 == 6) = true
                  · go_wp2_with fail
                    have hl64 : E'.length ≤ 64 := by have := HL'.out.len; omega
                    refine (mbytesD_ok p b 0 0 D' _ M9.out (by rw [HL'.out.enc.size]; exact hl64) (by omega) (by omega) HL'.out.enc.ver).mono ?_
                    rintro e w10 ⟨ao2, bn2, bc2, rfl, b10, e10, -⟩
                    rw [HL'.out.enc.bytes] at b10
                    obtain ⟨o1, o2, o3, o4⟩ := open_enc (life := 0) (epoch := 0) (by omega) (by omega) hl64 HL'.out.enc.rise HL'.out.enc.fine
                    have hbl := encB_len HL'.out.enc.fine hl64 0 0
                    have B10 := Lib.hid b10
                    have E10 := Lib.hid e10
                    have O1 := Lib.hid o1
                    have O2 := Lib.hid o2
                    have O3 := Lib.hid o3
                    have O4 := Lib.hid o4
                    have HBL := Lib.hid hbl
                    clear b10 e10 o1 o2 o3 o4 hbl hl64 h7
                    go_wp2_with fail
                    refine (mopen_ok ao2 bn2 bc2 _ _ B10.out (by rw [← B10.out.1]; have := HBL.out; unfold big; omega)).mono ?_
                    rintro e w11 ⟨-, h2, e11⟩
                    obtain ⟨p', b', rfl, m11, hp', hb'⟩ := h2 O1.out
                    rw [O2.out, O3.out] at m11
                    have M11 := Lib.hid m11
                    have E11 : Hid (Ext nob wc w11) := E10.out.trans' e11
                    have HDJ : Hid (tb ≠ p' ∧ tb ≠ b' ∧ wb ≠ p' ∧ wb ≠ b' ∧ w.heap.size ≤ p' ∧ w.heap.size ≤ b') := by
                      have h3 := blk_lt T9.out
                      have h4 := blk_lt W9.out
                      have h5 := E10.out.size
                      have h6 := EW9.out.size
                      exact ⟨by omega, by omega, by omega, by omega, by omega, by omega⟩
                    clear h2 m11 e11 hp' hb'
                    go_wp2_with fail
                    go_meet
                    exact ⟨p', b', _, rfl, M11.out, HL'.out.again O4.out, HDJ.out, E11.out⟩
                  · have h7' : ((q : Int) % 7 == 6) = false := by simpa using h7
                    clear h7
                    go_wp2_with fail
                    go_meet
                    exact ⟨p, b, D', rfl, M9.out, HL'.out, HD.out, Ext.refl _ _⟩
                case rest =>
                  obtain ⟨p', b', D2, rfl, m12, l12, d12, e12⟩ := hcut
                  have L12 := Lib.hid l12
                  have D12 := Lib.hid d12
                  have M12 := Lib.hid m12
                  have T12 := Lib.hid (e12.blk T9.out (fun h => h))
                  have W12 := Lib.hid (e12.blk W9.out (fun h => h))
                  have EW12 : Hid (Ext nob w wc) := EW9.out.trans' e12
                  clear l12 d12 m12 e12 T9 W9 M9 EW9
                  go_wp2_with fail
                  go_loopw [14] (fun jv wi => ∃ j : Nat, jv = .int .i64 (j : Int) ∧ j ≤ 10 ∧ Ext nob wc wi) (fun jv _ => 10 - (intOf jv).toNat)
                  case atStart => exact ⟨0, rfl, by omega, Ext.refl _ _⟩
                  case round =>
                    obtain ⟨j, rfl, hj10, ei⟩ := hrel
                    have EI := Lib.hid ei
                    clear ei
                    have HQK : Hid (q < n ∧ q < 80) := ⟨by omega, by omega⟩
                    by_cases hj : j < 10
                    · have hji : (j : Int) < 10 := by omega
                      have hcj : IntKind.u8.wrap (j : Int) = (j : Int) := u8_small j (by omega)
                      obtain ⟨tj, htj⟩ : ∃ tj, ts'[j]? = some tj := ⟨ts'[j]'(by rw [L12.out.tl]; exact hj), List.getElem?_eq_getElem _⟩
                      have hver : verD D2 (nmJ j) = (tj : Int) := by
                        have h1 := L12.out.ver j hj
                        obtain ⟨h2, h3⟩ := List.getElem?_eq_some_iff.1 htj
                        rw [h1, h3]
                      have HVER := Lib.hid hver
                      have HSJ : Hid (∀ w', Ext nob wc w' → (fun w' => w'.cell? ⟨tb, j, none⟩ = some (.int .i64 (tj : Int))) w') := fun w' e => cell_row (e.blk T12.out (fun h => h)) htj
                      clear hver htj
                      go_wp2_with fail
                      refine wp_region_held_drew (S := (fun w' => w'.cell? ⟨tb, j, none⟩ = some (.int .i64 (tj : Int)))) (by kernel_rfl) (HSJ.out _ EI.out.drew) (fun hHeld => ?_)
                      refine wpAnyH_take (i := 0) (v := ?_) rfl (by kernel_rfl) (by kernel_rfl) (by kernel_rfl) (fun _ _ _ h => h) (Or.inl ⟨by rfl, ?_⟩) (by assumption) ?_
                      rotate_left
                      · intro w hSw; (try dsimp only at hSw); go_simp; try with_reducible rfl
                      try simp only [Act.put, List.setIfInBounds_toArray, List.set_cons_zero, List.set_cons_succ]
                      refine wpAnyH_take (i := 1) (v := ?_) rfl (by kernel_rfl) (by kernel_rfl) (by kernel_rfl) (fun _ _ _ h => h) (Or.inl ⟨by rfl, ?_⟩) (by assumption) ?_
                      rotate_left
                      · intro w hSw; (try dsimp only at hSw); go_simp; try with_reducible rfl
                      try simp only [Act.put, List.setIfInBounds_toArray, List.set_cons_zero, List.set_cons_succ]
                      refine wpAnyH_take (i := 2) (v := ?_) rfl (by kernel_rfl) (by kernel_rfl) (by kernel_rfl) (fun _ _ _ h => h) (Or.inl ⟨by rfl, ?_⟩) (by assumption) ?_
                      rotate_left
                      · intro w hSw; (try dsimp only at hSw); go_simp; try with_reducible rfl
                      try simp only [Act.put, List.setIfInBounds_toArray, List.set_cons_zero, List.set_cons_succ]
                      refine wpAnyH_take (i := 5) (v := ?_) rfl (by kernel_rfl) (by kernel_rfl) (by kernel_rfl) (fun _ _ _ h => h) (Or.inl ⟨by rfl, ?_⟩) (by assumption) ?_
                      rotate_left
                      · intro w hSw; (try dsimp only at hSw); go_simp; try with_reducible rfl
                      try simp only [Act.put, List.setIfInBounds_toArray, List.set_cons_zero, List.set_cons_succ]
                      refine wpAnyH_take (i := 6) (v := ?_) rfl (by kernel_rfl) (by kernel_rfl) (by kernel_rfl) (fun _ _ _ h => h) (Or.inl ⟨by rfl, ?_⟩) (by assumption) ?_
                      rotate_left
                      · intro w hSw; (try dsimp only at hSw); go_simp; try with_reducible rfl
                      try simp only [Act.put, List.setIfInBounds_toArray, List.set_cons_zero, List.set_cons_succ]
                      refine wpAnyH_take (i := 7) (v := ?_) rfl (by kernel_rfl) (by kernel_rfl) (by kernel_rfl) (fun _ _ _ h => h) (Or.inl ⟨by rfl, ?_⟩) (by assumption) ?_
                      rotate_left
                      · intro w hSw; (try dsimp only at hSw); go_simp; try with_reducible rfl
                      try simp only [Act.put, List.setIfInBounds_toArray, List.set_cons_zero, List.set_cons_succ]
                      refine wpAnyH_ready (rs := [3]) (by kernel_rfl) (by simp) ?_
                      refine AllReadyH.cons rfl (fun K hK => ?_) AllReadyH.nil
                      go_simp
                      go_at_call 30
                      refine (name_nat j (by omega) _).mono ?_
                      rintro e w13 ⟨rfl, e13⟩
                      have E13 : Hid (Ext nob wc w13) := EI.out.drew.trans' e13
                      clear e13
                      go_wp2_with fail
                      refine hK.out _ _ (HSJ.out _ E13.out) (fun hHeld => ?_)
                      clear hK K
                      try simp only [Act.put, List.setIfInBounds_toArray, List.set_cons_zero, List.set_cons_succ]
                      refine wpAnyH_ready (rs := [4]) (by kernel_rfl) (by simp) ?_
                      refine AllReadyH.cons rfl (fun K hK => ?_) AllReadyH.nil
                      go_simp
                      go_at_call 34
                      refine (mver_nat2 p' b' 0 0 D2 (nmJ j) (nmJ_len j) tj _ (M12.out.ext E13.out (fun h => h) (fun h => h)) HVER.out).mono ?_
                      rintro e w14 ⟨rfl, e14⟩
                      have E14 : Hid (Ext nob wc w14) := E13.out.trans' e14
                      clear e14 E13
                      go_wp2_with fail
                      refine hK.out _ _ (HSJ.out _ E14.out) (fun hHeld => ?_)
                      clear hK K
                      try simp only [Act.put, List.setIfInBounds_toArray, List.set_cons_zero, List.set_cons_succ]
                      refine wpAnyH_take (i := 8) (v := ?_) rfl (by kernel_rfl) (by kernel_rfl) (by kernel_rfl) (fun _ _ _ h => h) (Or.inl ⟨by rfl, ?_⟩) (by assumption) ?_
                      rotate_left
                      · intro w hSw; (try dsimp only at hSw); go_simp; try with_reducible rfl
                      try simp only [Act.put, List.setIfInBounds_toArray, List.set_cons_zero, List.set_cons_succ]
                      try simp only [List.getElem_toArray, List.getElem_cons_succ, List.getElem_cons_zero, Act.put, List.setIfInBounds_toArray, List.set_cons_zero, List.set_cons_succ]
                      refine wpAnyH_done (by kernel_rfl) ?_ _
                      go_wp2_with fail
                      go_roundw
                      case rel => exact ⟨j + 1, by go_num, by omega, E14.out⟩
                      case measure => simp [intOf]; omega
                    · have hji : ¬ (j : Int) < 10 := by omega
                      go_wp2_with fail
                      go_roundw
                      case rel => exact ⟨q + 1, p', b', D2, E', ts', ws', rfl, by go_num, HQK.out.1, HQK.out.2, M12.out.ext EI.out (fun h => h) (fun h => h), L12.out, EI.out.blk T12.out (fun h => h), EI.out.blk W12.out (fun h => h), D12.out, EW12.out.trans' EI.out⟩
                      case measure => have := HQK.out.1; simp [intOf]; omega
      · have hki : (q : Int) < n := by omega
        have hki2 : ¬ (q : Int) < 80 := by omega
        go_wp2_with fail
        go_ret
        exact ⟨rfl, HE.out⟩
    · have hki : ¬ (q : Int) < n := by omega
      go_wp2_with fail
      go_ret
      exact ⟨rfl, HE.out⟩
end Go.Proofs.YtfgfhfmhadondaaDoor
