/- sealchainlaw10.MarkRises: the walk. -/
import Derived.Test.YtfgfhfmhadondaaDoorMarkL
import Derived.Test.YtfgfhfmhadondaaDoorMarkM
import Derived.Deep.DeepCutAuto
namespace Go.Proofs.YtfgfhfmhadondaaDoor
open Go.RowKit Go.Maps
set_option maxHeartbeats 400000

theorem flat_at {α : Type} (f : α → List Value) (m : Nat) (hf : ∀ x, (f x).length = m) : ∀ (xs : List α) (q : Nat) (x : α), xs[q]? = some x → ∀ s, s < m → (xs.flatMap f)[q * m + s]? = (f x)[s]?
  | [], _, _, h, _, _ => by simp at h
  | y :: t, 0, x, h, s, hs => by
    have : y = x := by simpa using h
    subst this
    rw [List.flatMap_cons, Nat.zero_mul, Nat.zero_add, List.getElem?_append_left (by rw [hf]; exact hs)]
  | y :: t, q + 1, x, h, s, hs => by
    rw [List.flatMap_cons, List.getElem?_append_right (by rw [hf, Nat.succ_mul]; omega), hf, show (q + 1) * m + s - m = q * m + s by rw [Nat.succ_mul]; omega]
    exact flat_at f m hf t q x (by simpa using h) s hs
theorem flat_len {α : Type} (f : α → List Value) (m : Nat) (hf : ∀ x, (f x).length = m) : ∀ (xs : List α), (xs.flatMap f).length = xs.length * m
  | [] => by simp
  | y :: t => by rw [List.flatMap_cons, List.length_append, hf, flat_len f m hf t, List.length_cons, Nat.succ_mul]; omega
abbrev Trip := Int × Int × Int
def tripC (t : Trip) : List Value := [.int .i64 t.1, .int .i64 t.2.1, .int .i64 t.2.2]
/-- A [][3]int that can be read. -/
def TripsAt (w : World) (ao : Option Addr) (n : Nat) (xs : List Trip) : Prop := xs.length = n ∧ Rd w ao (xs.flatMap tripC)
theorem TripsAt.ext {F : Nat → Prop} {w w' : World} {ao : Option Addr} {n : Nat} {xs : List Trip} (h : TripsAt w ao n xs) (e : Ext F w w') (hf : ∀ k, inA ao k → ¬ F k) : TripsAt w' ao n xs := ⟨h.1, h.2.ext e hf⟩
theorem trip_cells {w : World} {g o : Nat} {xs : List Trip} (h : Rd w (some ⟨g, o, none⟩) (xs.flatMap tripC)) (k : Nat) (t : Trip) (ht : xs[k]? = some t) :
    w.cell? ⟨g, o + k * 3, none⟩ = some (.int .i64 t.1) ∧ w.cell? ⟨g, o + k * 3 + 1, none⟩ = some (.int .i64 t.2.1) ∧ w.cell? ⟨g, o + k * 3 + 2, none⟩ = some (.int .i64 t.2.2) := by
  have h0 := h.cell (k * 3 + 0) _ (flat_at tripC 3 (fun _ => rfl) xs k t ht 0 (by omega))
  have h1 := h.cell (k * 3 + 1) _ (flat_at tripC 3 (fun _ => rfl) xs k t ht 1 (by omega))
  have h2 := h.cell (k * 3 + 2) _ (flat_at tripC 3 (fun _ => rfl) xs k t ht 2 (by omega))
  exact ⟨h0, h1, h2⟩

def nmJ (j : Nat) : List UInt8 := nameB (UInt8.ofNat j)
theorem nmJ_len (j : Nat) : (nmJ j).length = 32 := rfl
theorem name_nat (j : Nat) (hj : j < 256) (w : World) : Calls Tryd.prog 30 #[.int .u8 (j : Int)] w fun e w' => e = .returned (nameV (nmJ j)) ∧ Ext nob w w' := by
  have h := name_ok (UInt8.ofNat j) w
  rwa [show (((UInt8.ofNat j).toNat : Nat) : Int) = (j : Int) by rw [UInt8.toNat_ofNat']; omega] at h
theorem u8_small (j : Nat) (hj : j < 256) : IntKind.u8.wrap (j : Int) = (j : Int) := by
  simp [IntKind.wrap, IntKind.bits, IntKind.signed]; omega
theorem env_any (x : Int) (w : World) : Calls Tryd.prog 27 #[.int .i64 x] w fun e w' => ∃ g, e = .returned (.slice (some ⟨g, 0, none⟩) 3 3) ∧ Bytes w' (some ⟨g, 0, none⟩) 3 (envB x) ∧ Ext nob w w' ∧ w.heap.size ≤ g := by
  refine (env_ok x w).mono ?_
  rintro e w' ⟨rfl, h1, h2⟩
  exact ⟨_, rfl, h1, h2, Nat.le_refl _⟩

set_option linter.unusedSimpArgs false in
set_option maxRecDepth 20000 in
set_option maxHeartbeats 4000000 in
theorem markRises_ok (ao : Option Addr) (n c : Nat) (xs : List Trip) (w : World) (hx : TripsAt w ao n xs) (hn : n < 4611686018427387904) (hG : Laid w) :
    Calls Tryd.prog 7 #[.slice ao n c] w fun e w' => e = .returned (.bool true) ∧ Ext nob w w' := by
  have HX := Lib.hid hx
  have HN := Lib.hid hn
  have HG := Lib.hid hG
  clear hx hn hG
  have hu60 := Tryd.underlying60
  go_enter Tryd.func7, Tryd.ntmps7
  go_wp2_with fail
  refine (mnew_ok _).mono ?_
  rintro e w1 ⟨rfl, m1, e1⟩
  obtain ⟨b, hb⟩ : ∃ b, b = w.heap.size := ⟨_, rfl⟩
  obtain ⟨p, hp⟩ : ∃ p, p = w.heap.size + 1 := ⟨_, rfl⟩
  rw [← hp, ← hb] at m1
  rw [← hp]
  have HB : Hid (w.heap.size ≤ b) := by rw [hb]; exact Nat.le_refl _
  have HP : Hid (w.heap.size ≤ p) := by rw [hp]; exact Nat.le_succ _
  have M1 := Lib.hid m1
  have E1 := Lib.hid e1
  clear m1 e1 hb hp
  go_wp2_with fail
  go_loopw [4] (fun i wr => ∃ (k life epoch : Nat) (D : DataW Unit) (E : List Ent), i = .int .i64 (k : Int) ∧ k ≤ n ∧ k ≤ 60 ∧ MarksAt wr p b life epoch D ∧ Enc D E ∧ E.length ≤ 64 ∧ life ≤ k ∧ epoch < 256 ∧ Ext nob w wr) (fun i _ => n - (intOf i).toNat)
  case atStart => exact ⟨0, 0, 0, D0, [], rfl, by omega, by omega, M1.out, enc0, by simp, by omega, by omega, E1.out⟩
  case round =>
    obtain ⟨k, life, epoch, D, E, rfl, hk, hk6, hm, hE, hEl, hlf, hep, he⟩ := hrel
    have HM := Lib.hid hm
    have HEE := Lib.hid hE
    have HEL := Lib.hid hEl
    have HLF := Lib.hid hlf
    have HEP := Lib.hid hep
    have HE := Lib.hid he
    have hb : n < 4611686018427387904 := HN.out
    have hxl : xs.length = n := HX.out.1
    clear hm hE hEl hlf hep he
    by_cases hkn : k < n
    · by_cases hk2 : k < 60
      · have hki : (k : Int) < n := by omega
        have hki2 : (k : Int) < 60 := by omega
        obtain ⟨r, hr⟩ : ∃ r, xs[k]? = some r := ⟨xs[k]'(by omega), List.getElem?_eq_getElem _⟩
        obtain ⟨x1, x2⟩ := HX.out.ext HE.out (fun _ _ h => h)
        have hne : xs.flatMap tripC ≠ [] := fun h => by have := flat_len tripC 3 (fun _ => rfl) xs; rw [h] at this; simp at this; omega
        obtain ⟨g, o, rfl⟩ := x2.addr hne
        obtain ⟨c0, c1, c2⟩ := trip_cells x2 k r hr
        have hg : g < wr.heap.size := World.block_lt_of_cell? wr _ c0
        obtain ⟨j1, hj1⟩ : ∃ j : Nat, r.2.1 % ((6 : Nat) : Int) = (j : Int) := ⟨(r.2.1 % 6).toNat, by omega⟩
        obtain ⟨j0, hj0⟩ : ∃ j : Nat, r.1 % ((4 : Nat) : Int) = (j : Int) := ⟨(r.1 % 4).toNat, by omega⟩
        have hj1l : j1 < 6 := by omega
        have hj0l : j0 < 4 := by omega
        have hcv : IntKind.u8.wrap (j1 : Int) = (j1 : Int) := u8_small j1 (by omega)
        have hgw : g < w.heap.size := HX.out.2.lt hne g ⟨_, rfl, rfl⟩
        have HGB : Hid (g ≠ b ∧ g ≠ p) := by have := HB.out; have := HP.out; exact ⟨by omega, by omega⟩
        have HGL := Lib.hid hg
        have HC : Hid (∀ w', Ext (fun k => k = p ∨ k = b) wr w' → (w'.cell? ⟨g, o + k * 3, none⟩ = some (.int .i64 r.1) ∧ w'.cell? ⟨g, o + k * 3 + 1, none⟩ = some (.int .i64 r.2.1) ∧ w'.cell? ⟨g, o + k * 3 + 2, none⟩ = some (.int .i64 r.2.2))) := fun w' e => by
          have hh : ¬ (g = p ∨ g = b) := fun h => by rcases h with h | h; exact HGB.out.2 h; exact HGB.out.1 h
          exact ⟨e.cell c0 hh, e.cell c1 hh, e.cell c2 hh⟩
        clear hne hg x1 x2 hgw hr
        go_upto_region 5 with fail
        go_cut [5, 6] (fun s5 s6 wx => ∃ nb : Nat, s5 = .pointer (some ⟨nb, 0, none⟩) ∧ s6 = .int .i64 r.2.2 ∧ wx.heap[nb]? = some (.cells ((nmJ j1).map byt).toArray 60 (0, 0)) ∧ Ext nob wr wx ∧ wr.heap.size ≤ nb)
        case first =>
          have hi60 : (Tryd.prog.info? 60).map (·.size) = some ((nmJ j1).map byt).toArray.size := by kernel_rfl
          have hone60 : ((nmJ j1).map byt).toArray.all (·.oneCell') = true := all_oneCell_toArray (fun u hu => oneCell_byt _ u hu)
          have HS1 : Hid (∀ w', Ext nob wr w' → (fun w' => w'.cell? ⟨g, o + k * 3 + 1, none⟩ = some (.int .i64 r.2.1) ∧ w'.cell? ⟨g, o + k * 3 + 2, none⟩ = some (.int .i64 r.2.2)) w') := fun w' e => (HC.out w' e.nob).2
          refine wp_region_held_drew (S := (fun w' => w'.cell? ⟨g, o + k * 3 + 1, none⟩ = some (.int .i64 r.2.1) ∧ w'.cell? ⟨g, o + k * 3 + 2, none⟩ = some (.int .i64 r.2.2))) (by kernel_rfl) (HS1.out _ (Ext.refl _ wr).drew) (fun hHeld => ?_)
          refine wpAnyH_take (i := 0) (v := ?_) rfl (by kernel_rfl) (by kernel_rfl) (by kernel_rfl) (fun _ _ _ h => h) (Or.inl ⟨by rfl, ?_⟩) (by assumption) ?_
          rotate_left
          · intro w hSw; (try dsimp only at hSw); go_simp; try with_reducible rfl
          try simp only [Act.put, List.setIfInBounds_toArray, List.set_cons_zero, List.set_cons_succ]
          refine wpAnyH_take (i := 1) (v := ?_) rfl (by kernel_rfl) (by kernel_rfl) (by kernel_rfl) (fun _ _ _ h => h) (Or.inl ⟨by rfl, ?_⟩) (by assumption) ?_
          rotate_left
          · intro w hSw; (try dsimp only at hSw); go_simp; try with_reducible rfl
          try simp only [Act.put, List.setIfInBounds_toArray, List.set_cons_zero, List.set_cons_succ]
          refine wpAnyH_take (i := 2) (v := ?_) rfl (by kernel_rfl) (by kernel_rfl) (by kernel_rfl) (fun _ _ _ h => h) (Or.inl ⟨by rfl, ?_⟩) (by assumption) ?_
          rotate_left
          · intro w hSw; (try dsimp only at hSw); go_simp; try with_reducible rfl
          try simp only [Act.put, List.setIfInBounds_toArray, List.set_cons_zero, List.set_cons_succ]
          refine wpAnyH_take (i := 3) (v := ?_) rfl (by kernel_rfl) (by kernel_rfl) (by kernel_rfl) (fun _ _ _ h => h) (Or.inl ⟨by rfl, ?_⟩) (by assumption) ?_
          rotate_left
          · intro w hSw; (try dsimp only at hSw); go_simp; try with_reducible rfl
          try simp only [Act.put, List.setIfInBounds_toArray, List.set_cons_zero, List.set_cons_succ]
          refine wpAnyH_take (i := 4) (v := ?_) rfl (by kernel_rfl) (by kernel_rfl) (by kernel_rfl) (fun _ _ _ h => h) (Or.inl ⟨by rfl, ?_⟩) (by assumption) ?_
          rotate_left
          · intro w hSw; (try dsimp only at hSw); go_simp; try with_reducible rfl
          try simp only [Act.put, List.setIfInBounds_toArray, List.set_cons_zero, List.set_cons_succ]
          refine wpAnyH_take (i := 8) (v := ?_) rfl (by kernel_rfl) (by kernel_rfl) (by kernel_rfl) (fun _ _ _ h => h) (Or.inl ⟨by rfl, ?_⟩) (by assumption) ?_
          rotate_left
          · intro w hSw; (try dsimp only at hSw); go_simp; try with_reducible rfl
          try simp only [Act.put, List.setIfInBounds_toArray, List.set_cons_zero, List.set_cons_succ]
          refine wpAnyH_take (i := 9) (v := ?_) rfl (by kernel_rfl) (by kernel_rfl) (by kernel_rfl) (fun _ _ _ h => h) (Or.inl ⟨by rfl, ?_⟩) (by assumption) ?_
          rotate_left
          · intro w hSw; (try dsimp only at hSw); go_simp; try with_reducible rfl
          try simp only [Act.put, List.setIfInBounds_toArray, List.set_cons_zero, List.set_cons_succ]
          refine wpAnyH_take (i := 10) (v := ?_) rfl (by kernel_rfl) (by kernel_rfl) (by kernel_rfl) (fun _ _ _ h => h) (Or.inl ⟨by rfl, ?_⟩) (by assumption) ?_
          rotate_left
          · intro w hSw; (try dsimp only at hSw); go_simp; try with_reducible rfl
          try simp only [Act.put, List.setIfInBounds_toArray, List.set_cons_zero, List.set_cons_succ]
          refine wpAnyH_take (i := 11) (v := ?_) rfl (by kernel_rfl) (by kernel_rfl) (by kernel_rfl) (fun _ _ _ h => h) (Or.inl ⟨by rfl, ?_⟩) (by assumption) ?_
          rotate_left
          · intro w hSw; (try dsimp only at hSw); go_simp; try with_reducible rfl
          try simp only [Act.put, List.setIfInBounds_toArray, List.set_cons_zero, List.set_cons_succ]
          refine wpAnyH_take (i := 12) (v := ?_) rfl (by kernel_rfl) (by kernel_rfl) (by kernel_rfl) (fun _ _ _ h => h) (Or.inl ⟨by rfl, ?_⟩) (by assumption) ?_
          rotate_left
          · intro w hSw; (try dsimp only at hSw); go_simp; try with_reducible rfl
          try simp only [Act.put, List.setIfInBounds_toArray, List.set_cons_zero, List.set_cons_succ]
          refine wpAnyH_ready (rs := [5, 13]) (by kernel_rfl) (by simp) ?_
          refine AllReadyH.cons rfl (fun K hK => ?_) (AllReadyH.cons rfl (fun K hK => ?_) AllReadyH.nil)
          · go_simp
            go_at_call 14
            refine (bring_nat _ 6 _ rfl (by omega) (by omega) j1 hj1 _).mono ?_
            rintro e w2 ⟨rfl, rfl⟩
            go_wp2_with fail
            refine hK.out _ _ (HS1.out _ (Ext.refl _ wr).drew) (fun hHeld => ?_)
            clear hK K
            try simp only [Act.put, List.setIfInBounds_toArray, List.set_cons_zero, List.set_cons_succ]
            refine wpAnyH_take (i := 6) (v := ?_) rfl (by kernel_rfl) (by kernel_rfl) (by kernel_rfl) (fun _ _ _ h => h) (Or.inl ⟨by rfl, ?_⟩) (by assumption) ?_
            rotate_left
            · intro w hSw; (try dsimp only at hSw); go_simp; try with_reducible rfl
            try simp only [Act.put, List.setIfInBounds_toArray, List.set_cons_zero, List.set_cons_succ]
            refine wpAnyH_ready (rs := [7, 13]) (by kernel_rfl) (by simp) ?_
            refine AllReadyH.cons rfl (fun K hK => ?_) (AllReadyH.cons rfl (fun K hK => ?_) AllReadyH.nil)
            · go_simp
              go_at_call 30
              refine (name_nat j1 (by omega) _).mono ?_
              rintro e w3 ⟨rfl, e3⟩
              have E3 : Hid (Ext nob wr w3) := (Ext.refl _ wr).drew.trans' e3
              clear e3
              go_wp2_with fail
              refine hK.out _ _ (HS1.out _ E3.out) (fun hHeld => ?_)
              clear hK K
              try simp only [Act.put, List.setIfInBounds_toArray, List.set_cons_zero, List.set_cons_succ]
              refine wpAnyH_ready (rs := [13]) (by kernel_rfl) (by simp) ?_
              refine AllReadyH.cons rfl (fun K hK => ?_) AllReadyH.nil
              go_simp
              refine hK.out _ _ (HS1.out _ (E3.out.alloc _)) (fun hHeld => ?_)
              clear hK K
              try simp only [Act.put, List.setIfInBounds_toArray, List.set_cons_zero, List.set_cons_succ]
              refine wpAnyH_ready (rs := [14]) (by kernel_rfl) (by simp) ?_
              refine AllReadyH.cons rfl (fun K hK => ?_) AllReadyH.nil
              rw [if_pos (by rfl)]
              refine wp_store_new 60 (.tmp 5) (.tmp 30) rfl w3.heap.size ((nmJ j1).map byt).toArray rfl rfl 60 _ (blk_new _ _) hi60 rfl hone60 ?_
              intro Wf kf ef
              have EF : Hid (Ext nob wr Wf) := (E3.out.alloc _).trans ef (fun i hi h => absurd hi (by have := E3.out.size; rw [h]; omega))
              have KF := Lib.hid kf
              have NF : Hid (wr.heap.size ≤ w3.heap.size) := E3.out.size
              clear ef kf
              refine hK.out _ _ (HS1.out _ EF.out) (fun hHeld => ?_)
              clear hK K
              try simp only [Act.put, List.setIfInBounds_toArray, List.set_cons_zero, List.set_cons_succ]
              refine wpAnyH_take (i := 15) (v := ?_) rfl (by kernel_rfl) (by kernel_rfl) (by kernel_rfl) (fun _ _ _ h => h) (Or.inl ⟨by rfl, ?_⟩) (by assumption) ?_
              rotate_left
              · intro w hSw; (try dsimp only at hSw); go_simp; try with_reducible rfl
              try simp only [Act.put, List.setIfInBounds_toArray, List.set_cons_zero, List.set_cons_succ]
              simp only [List.getElem_toArray, List.getElem_cons_succ, List.getElem_cons_zero, Act.put, List.setIfInBounds_toArray, List.set_cons_zero, List.set_cons_succ]
              refine wpAnyH_done (by kernel_rfl) ?_ _
              go_wp2_with fail
              go_meet
              exact ⟨_, rfl, rfl, KF.out, EF.out, NF.out⟩
            · go_simp
              refine hK.out _ _ (HS1.out _ (by first | exact (Ext.refl nob wr).drew.alloc _ | exact ((Ext.refl nob wr).alloc _).drew)) (fun hHeld => ?_)
              clear hK K
              try simp only [Act.put, List.setIfInBounds_toArray, List.set_cons_zero, List.set_cons_succ]
              refine wpAnyH_ready (rs := [7]) (by kernel_rfl) (by simp) ?_
              refine AllReadyH.cons rfl (fun K hK => ?_) AllReadyH.nil
              go_simp
              go_at_call 30
              refine (name_nat j1 (by omega) _).mono ?_
              rintro e w3 ⟨rfl, e3⟩
              have E3 : Hid (Ext nob wr w3) := by first | exact ((Ext.refl nob wr).drew.alloc _).trans' e3 | exact ((Ext.refl nob wr).alloc _).drew.trans' e3
              have k3 := e3.blk (blk_new wr.drew _) (fun h => h)
              have K3 := Lib.hid k3
              clear e3 k3
              go_wp2_with fail
              refine hK.out _ _ (HS1.out _ E3.out) (fun hHeld => ?_)
              clear hK K
              try simp only [Act.put, List.setIfInBounds_toArray, List.set_cons_zero, List.set_cons_succ]
              refine wpAnyH_ready (rs := [14]) (by kernel_rfl) (by simp) ?_
              refine AllReadyH.cons rfl (fun K hK => ?_) AllReadyH.nil
              rw [if_pos (by rfl)]
              refine wp_store_new 60 (.tmp 5) (.tmp 30) rfl wr.heap.size ((nmJ j1).map byt).toArray rfl rfl 60 _ K3.out hi60 rfl hone60 ?_
              intro Wf kf ef
              have EF : Hid (Ext nob wr Wf) := E3.out.trans ef (fun i hi h => absurd hi (by rw [h]; omega))
              have KF := Lib.hid kf
              clear ef kf
              refine hK.out _ _ (HS1.out _ EF.out) (fun hHeld => ?_)
              clear hK K
              try simp only [Act.put, List.setIfInBounds_toArray, List.set_cons_zero, List.set_cons_succ]
              refine wpAnyH_take (i := 15) (v := ?_) rfl (by kernel_rfl) (by kernel_rfl) (by kernel_rfl) (fun _ _ _ h => h) (Or.inl ⟨by rfl, ?_⟩) (by assumption) ?_
              rotate_left
              · intro w hSw; (try dsimp only at hSw); go_simp; try with_reducible rfl
              try simp only [Act.put, List.setIfInBounds_toArray, List.set_cons_zero, List.set_cons_succ]
              simp only [List.getElem_toArray, List.getElem_cons_succ, List.getElem_cons_zero, Act.put, List.setIfInBounds_toArray, List.set_cons_zero, List.set_cons_succ]
              refine wpAnyH_done (by kernel_rfl) ?_ _
              go_wp2_with fail
              go_meet
              exact ⟨_, rfl, rfl, KF.out, EF.out, Nat.le_refl _⟩
          · go_simp
            refine hK.out _ _ (HS1.out _ (by first | exact (Ext.refl nob wr).drew.alloc _ | exact ((Ext.refl nob wr).alloc _).drew)) (fun hHeld => ?_)
            clear hK K
            try simp only [Act.put, List.setIfInBounds_toArray, List.set_cons_zero, List.set_cons_succ]
            refine wpAnyH_ready (rs := [5]) (by kernel_rfl) (by simp) ?_
            refine AllReadyH.cons rfl (fun K hK => ?_) AllReadyH.nil
            go_simp
            go_at_call 14
            refine (bring_nat _ 6 _ rfl (by omega) (by omega) j1 hj1 _).mono ?_
            rintro e w2 ⟨rfl, rfl⟩
            go_wp2_with fail
            refine hK.out _ _ (HS1.out _ (by first | exact (Ext.refl nob wr).drew.alloc _ | exact ((Ext.refl nob wr).alloc _).drew)) (fun hHeld => ?_)
            clear hK K
            try simp only [Act.put, List.setIfInBounds_toArray, List.set_cons_zero, List.set_cons_succ]
            refine wpAnyH_take (i := 6) (v := ?_) rfl (by kernel_rfl) (by kernel_rfl) (by kernel_rfl) (fun _ _ _ h => h) (Or.inl ⟨by rfl, ?_⟩) (by assumption) ?_
            rotate_left
            · intro w hSw; (try dsimp only at hSw); go_simp; try with_reducible rfl
            try simp only [Act.put, List.setIfInBounds_toArray, List.set_cons_zero, List.set_cons_succ]
            refine wpAnyH_ready (rs := [7]) (by kernel_rfl) (by simp) ?_
            refine AllReadyH.cons rfl (fun K hK => ?_) AllReadyH.nil
            go_simp
            go_at_call 30
            refine (name_nat j1 (by omega) _).mono ?_
            rintro e w3 ⟨rfl, e3⟩
            have E3 : Hid (Ext nob wr w3) := by first | exact ((Ext.refl nob wr).drew.alloc _).trans' e3 | exact ((Ext.refl nob wr).alloc _).drew.trans' e3
            have k3 := e3.blk (blk_new wr.drew _) (fun h => h)
            have K3 := Lib.hid k3
            clear e3 k3
            go_wp2_with fail
            refine hK.out _ _ (HS1.out _ E3.out) (fun hHeld => ?_)
            clear hK K
            try simp only [Act.put, List.setIfInBounds_toArray, List.set_cons_zero, List.set_cons_succ]
            refine wpAnyH_ready (rs := [14]) (by kernel_rfl) (by simp) ?_
            refine AllReadyH.cons rfl (fun K hK => ?_) AllReadyH.nil
            rw [if_pos (by rfl)]
            refine wp_store_new 60 (.tmp 5) (.tmp 30) rfl wr.heap.size ((nmJ j1).map byt).toArray rfl rfl 60 _ K3.out hi60 rfl hone60 ?_
            intro Wf kf ef
            have EF : Hid (Ext nob wr Wf) := E3.out.trans ef (fun i hi h => absurd hi (by rw [h]; omega))
            have KF := Lib.hid kf
            clear ef kf
            refine hK.out _ _ (HS1.out _ EF.out) (fun hHeld => ?_)
            clear hK K
            try simp only [Act.put, List.setIfInBounds_toArray, List.set_cons_zero, List.set_cons_succ]
            refine wpAnyH_take (i := 15) (v := ?_) rfl (by kernel_rfl) (by kernel_rfl) (by kernel_rfl) (fun _ _ _ h => h) (Or.inl ⟨by rfl, ?_⟩) (by assumption) ?_
            rotate_left
            · intro w hSw; (try dsimp only at hSw); go_simp; try with_reducible rfl
            try simp only [Act.put, List.setIfInBounds_toArray, List.set_cons_zero, List.set_cons_succ]
            simp only [List.getElem_toArray, List.getElem_cons_succ, List.getElem_cons_zero, Act.put, List.setIfInBounds_toArray, List.set_cons_zero, List.set_cons_succ]
            refine wpAnyH_done (by kernel_rfl) ?_ _
            go_wp2_with fail
            go_meet
            exact ⟨_, rfl, rfl, KF.out, EF.out, Nat.le_refl _⟩
        case rest =>
          obtain ⟨nb, rfl, rfl, kn, ew, hnb⟩ := hcut
          have hvl : r.2.2 = r.2.2 := rfl
          obtain ⟨nm, hnm⟩ : ∃ nm, nm = nmJ j1 := ⟨_, rfl⟩
          have hnl : nm.length = 32 := by rw [hnm]; rfl
          rw [← hnm] at kn
          have KN := Lib.hid kn
          have EW := Lib.hid ew
          have HNB := Lib.hid hnb
          have MC : Hid (MarksAt wc p b life epoch D) := HM.out.ext ew (fun h => h) (fun h => h)
          have HEW : Hid (Ext nob w wc) := HE.out.trans' ew
          have HSV : Hid (∀ w', Ext nob wc w' → (fun w' => w'.rangeAt nb 0 (nm.map byt)) w') := fun w' e => fun j v hj => cell_of' (e.blk KN.out (fun h => h)) (by rw [Nat.zero_add]; simpa using hj)
          have hi60 : (Tryd.prog.info? 60).map (·.size) = some (nm.map byt).length := by rw [List.length_map, hnl]; kernel_rfl
          have hs64 : Maps.size D ≤ 64 := by rw [HEE.out.size]; exact HEL.out
          have HS64 := Lib.hid hs64
          clear kn ew hnb hnm hs64 hvl
          go_wp2_with fail
          refine wp_region_held_drew (S := (fun w' => w'.rangeAt nb 0 (nm.map byt))) (by kernel_rfl) (HSV.out _ (Ext.refl _ wc).drew) (fun hHeld => ?_)
          refine wpAnyH_take (i := 0) (v := ?_) rfl (by kernel_rfl) (by kernel_rfl) (by kernel_rfl) (fun _ _ _ h => h) (Or.inl ⟨by rfl, ?_⟩) (by assumption) ?_
          rotate_left
          · intro w hSw; (try dsimp only at hSw); go_simp; try with_reducible rfl
          try simp only [Act.put, List.setIfInBounds_toArray, List.set_cons_zero, List.set_cons_succ]
          refine wpAnyH_take (i := 2) (v := ?_) rfl (by kernel_rfl) (by kernel_rfl) (by kernel_rfl) (fun _ _ _ h => h) (Or.inl ⟨by rfl, ?_⟩) (by assumption) ?_
          rotate_left
          · intro w hSw; (try dsimp only at hSw); go_simp; try with_reducible rfl
          try simp only [Act.put, List.setIfInBounds_toArray, List.set_cons_zero, List.set_cons_succ]
          refine wpAnyH_take (i := 4) (v := ?_) rfl (by kernel_rfl) (by kernel_rfl) (by kernel_rfl) (fun _ _ _ h => h) (Or.inl ⟨by rfl, ?_⟩) (by assumption) ?_
          rotate_left
          · intro w hSw; (try dsimp only at hSw); go_simp; try with_reducible rfl
          try simp only [Act.put, List.setIfInBounds_toArray, List.set_cons_zero, List.set_cons_succ]
          refine wpAnyH_take (i := 6) (v := ?_) rfl (by kernel_rfl) (by kernel_rfl) (by kernel_rfl) (fun _ _ _ h => h) (Or.inl ⟨by rfl, ?_⟩) (by assumption) ?_
          rotate_left
          · intro w hSw; (try dsimp only at hSw); go_simp; try with_reducible rfl
          try simp only [Act.put, List.setIfInBounds_toArray, List.set_cons_zero, List.set_cons_succ]
          refine wpAnyH_take (i := 7) (v := .agg (nm.map byt).toArray) rfl (by kernel_rfl) (by kernel_rfl) (by kernel_rfl) (fun _ _ _ h => h) (yieldsIf_load_mid (by rfl) 60 (.tmp 5) rfl nb 0 rfl (nm.map byt) _ (fun w hSw => hSw) hu60 rfl hi60) (by assumption) ?_
          try simp only [Act.put, List.setIfInBounds_toArray, List.set_cons_zero, List.set_cons_succ]
          refine wpAnyH_ready (rs := [1]) (by kernel_rfl) (by simp) ?_
          refine AllReadyH.cons rfl (fun K hK => ?_) AllReadyH.nil
          go_simp
          go_at_call 33
          refine (mbytesD_ok p b life epoch D _ (MC.out.ext (Ext.refl nob wc).drew (fun h => h) (fun h => h)) HS64.out (by have := HLF.out; omega) HEP.out HEE.out.ver).mono ?_
          rintro e w6 ⟨bo, bm, bc, rfl, b6, e6, f6⟩
          have E6 : Hid (Ext nob wc w6) := (Ext.refl nob wc).drew.trans' e6
          have B6 := Lib.hid b6
          have F6 : Hid (∀ k, inA bo k → wc.heap.size ≤ k) := f6
          clear b6 e6 f6
          go_wp2_with fail
          refine hK.out _ _ (HSV.out _ E6.out) (fun hHeld => ?_)
          clear hK K
          try simp only [Act.put, List.setIfInBounds_toArray, List.set_cons_zero, List.set_cons_succ]
          refine wpAnyH_ready (rs := [3]) (by kernel_rfl) (by simp) ?_
          refine AllReadyH.cons rfl (fun K hK => ?_) AllReadyH.nil
          go_simp
          go_at_call 36
          refine (mlife_ok p b life epoch D _ (MC.out.ext E6.out (fun h => h) (fun h => h))).mono ?_
          rintro e w7 ⟨rfl, rfl⟩
          go_wp2_with fail
          refine hK.out _ _ (HSV.out _ E6.out) (fun hHeld => ?_)
          clear hK K
          try simp only [Act.put, List.setIfInBounds_toArray, List.set_cons_zero, List.set_cons_succ]
          refine wpAnyH_ready (rs := [5]) (by kernel_rfl) (by simp) ?_
          refine AllReadyH.cons rfl (fun K hK => ?_) AllReadyH.nil
          go_simp
          go_at_call 37
          refine (mepoch_ok p b life epoch D _ (MC.out.ext E6.out (fun h => h) (fun h => h))).mono ?_
          rintro e w7 ⟨rfl, rfl⟩
          go_wp2_with fail
          refine hK.out _ _ (HSV.out _ E6.out) (fun hHeld => ?_)
          clear hK K
          try simp only [Act.put, List.setIfInBounds_toArray, List.set_cons_zero, List.set_cons_succ]
          refine wpAnyH_ready (rs := [8]) (by kernel_rfl) (by simp) ?_
          refine AllReadyH.cons rfl (fun K hK => ?_) AllReadyH.nil
          go_simp
          go_at_call 34
          refine (mversion_ok p b life epoch D nm hnl _ (MC.out.ext E6.out (fun h => h) (fun h => h))).mono ?_
          rintro e w7 ⟨rfl, e7⟩
          have E7 : Hid (Ext nob wc w7) := E6.out.trans' e7
          have B7 : Hid (Bytes w7 bo bm (marksB life epoch D)) := B6.out.ext e7 (fun _ _ h => h)
          clear e7
          go_wp2_with fail
          refine hK.out _ _ (HSV.out _ E7.out) (fun hHeld => ?_)
          clear hK K
          try simp only [Act.put, List.setIfInBounds_toArray, List.set_cons_zero, List.set_cons_succ]
          refine wpAnyH_take (i := 9) (v := ?_) rfl (by kernel_rfl) (by kernel_rfl) (by kernel_rfl) (fun _ _ _ h => h) (Or.inl ⟨by rfl, ?_⟩) (by assumption) ?_
          rotate_left
          · intro w hSw; (try dsimp only at hSw); go_simp; try with_reducible rfl
          try simp only [Act.put, List.setIfInBounds_toArray, List.set_cons_zero, List.set_cons_succ]
          refine wpAnyH_take (i := 10) (v := ?_) rfl (by kernel_rfl) (by kernel_rfl) (by kernel_rfl) (fun _ _ _ h => h) (Or.inl ⟨by rfl, ?_⟩) (by assumption) ?_
          rotate_left
          · intro w hSw; (try dsimp only at hSw); go_simp; try with_reducible rfl
          try simp only [Act.put, List.setIfInBounds_toArray, List.set_cons_zero, List.set_cons_succ]
          refine wpAnyH_take (i := 11) (v := ?_) rfl (by kernel_rfl) (by kernel_rfl) (by kernel_rfl) (fun _ _ _ h => h) (Or.inl ⟨by rfl, ?_⟩) (by assumption) ?_
          rotate_left
          · intro w hSw; (try dsimp only at hSw); go_simp; try with_reducible rfl
          try simp only [Act.put, List.setIfInBounds_toArray, List.set_cons_zero, List.set_cons_succ]
          refine wpAnyH_take (i := 12) (v := ?_) rfl (by kernel_rfl) (by kernel_rfl) (by kernel_rfl) (fun _ _ _ h => h) (Or.inl ⟨by rfl, ?_⟩) (by assumption) ?_
          rotate_left
          · intro w hSw; (try dsimp only at hSw); go_simp; try with_reducible rfl
          try simp only [Act.put, List.setIfInBounds_toArray, List.set_cons_zero, List.set_cons_succ]
          simp only [List.getElem_toArray, List.getElem_cons_succ, List.getElem_cons_zero, Act.put, List.setIfInBounds_toArray, List.set_cons_zero, List.set_cons_succ]
          refine wpAnyH_done (by kernel_rfl) ?_ _
          clear B6 E6
          have MD : Hid (MarksAt w7 p b life epoch D) := MC.out.ext E7.out (fun h => h) (fun h => h)
          have ED : Hid (Ext nob w w7) := HEW.out.trans' E7.out
          have CD := Lib.hid (HC.out _ ((EW.out.trans' E7.out).nob))
          obtain ⟨d0, d1, d2⟩ := CD.out
          have hg7 : g < w7.heap.size := Nat.lt_of_lt_of_le HGL.out (EW.out.trans' E7.out).size
          clear MC HEW d1 d2
          go_wp2_with fail
          refine (bring_nat _ 4 _ rfl (by omega) (by omega) j0 hj0 _).mono ?_
          rintro e w8 ⟨rfl, rfl⟩
          have HNP : Hid (nb ≠ b ∧ nb ≠ p) := by
            have h1 := HM.out.2.1.lt
            have h2 := blk_lt HM.out.1
            have h3 := HNB.out
            exact ⟨by omega, by omega⟩
          have KN7 := Lib.hid (E7.out.blk KN.out (fun h => h))
          have hi60' : (Tryd.prog.info? 60).map (·.size) = some (nm.map byt).toArray.size := by rw [List.size_toArray]; exact hi60
          have RUN : Hid (∃ (ev life' epoch' : Nat) (D' : DataW Unit), True) := ⟨0, 0, 0, D, trivial⟩
          clear RUN d0 hg7 CD
          by_cases hz : j0 = 0
          · have hq0 : ((j0 : Int) == 0) = true := by simp [hz]
            clear hz
            go_wp2_with fail
            refine (mborn_lit p b life epoch D _ MD.out (by have := HLF.out; omega)).mono ?_
            rintro e w9 ⟨rfl, m9, x9⟩
            have M9 := Lib.hid m9
            have X9 : Hid (Ext (fun i => i = p ∨ i = b) w7 w9) := x9.mono (fun i _ h => .inl h)
            have hl9 : decide ((life : Int) + 1 < (life : Int)) = false := by simp; omega
            have hl8 : ¬ ((life : Int) + 1 < (life : Int)) := by omega
            have C9 : Hid (Enc D E ∧ E.length ≤ 64 ∧ life + 1 ≤ k + 1 ∧ epoch < 256) := ⟨HEE.out, HEL.out, by have := HLF.out; omega, HEP.out⟩
            clear m9 x9
            have KN9 : Hid (w9.heap[nb]? = some (.cells (nm.map byt).toArray 60 (0, 0))) := X9.out.blk KN7.out (fun h => by rcases h with h | h; exact HNP.out.2 h; exact HNP.out.1 h)
            go_wp2_with fail
            refine (mlife_ok p b (life + 1) epoch D _ M9.out).mono ?_
            rintro e w10 ⟨rfl, rfl⟩
            go_wp2_with fail
            refine (mepoch_ok p b (life + 1) epoch D _ M9.out).mono ?_
            rintro e w10 ⟨rfl, rfl⟩
            go_wp2_with (first | (refine wpList_load_rowG (by rfl) 60 (.tmp 5) rfl nb rfl 60 (nm.map byt).toArray (0, 0) _ KN9.out hu60 rfl hi60' ?_) | fail)
            refine (mversion_ok p b (life + 1) epoch D nm hnl _ M9.out).mono ?_
            rintro e w10 ⟨rfl, x10⟩
            have X10 := Lib.hid x10
            clear x10
            go_wp2_with fail
            have MF : Hid (MarksAt w10 p b (life + 1) epoch D) := M9.out.ext X10.out (fun h => h) (fun h => h)
            have EF : Hid (Ext nob w w10) := ED.out.trans (X9.out.trans' X10.out.nob) (fun i hi h => by have h1 := HB.out; have h2 := HP.out; rcases h with h | h <;> omega)
            clear M9 X9 X10 KN9
            go_roundw
            case rel => exact ⟨k + 1, (life + 1), epoch, D, E, by go_num, by omega, by omega, MF.out, C9.out.1, C9.out.2.1, C9.out.2.2.1, C9.out.2.2.2, EF.out⟩
            case measure => simp [intOf]; omega
          · have hq0 : ((j0 : Int) == 0) = false := by simp [hz]
            by_cases hz1 : j0 = 1
            · have hq1 : ((j0 : Int) == 1) = true := by rw [hz1]; rfl
              clear hz hz1
              go_wp2_with fail
              refine (mraise_ok p b life epoch D r.2.2 _ MD.out).mono ?_
              by_cases hr0 : raiseE epoch r.2.2 = 0
              · rw [hr0, if_pos rfl]
                rintro e w9 ⟨rfl, m9, x9⟩
                have hb9 : (epoch : Int) ≤ r.2.2 ∧ r.2.2 ≤ 255 := by
                  unfold raiseE at hr0
                  split at hr0
                  · cases hr0
                  · split at hr0
                    · cases hr0
                    · omega
                obtain ⟨ep, hep⟩ : ∃ ep, ep = r.2.2.toNat := ⟨_, rfl⟩
                rw [← hep] at m9
                have M9 := Lib.hid m9
                have X9 : Hid (Ext (fun i => i = p ∨ i = b) w7 w9) := x9.mono (fun i _ h => .inl h)
                have he9 : decide (ep < epoch) = false := by simp; omega
                have he8 : ¬ (ep < epoch) := by omega
                have C9 : Hid (Enc D E ∧ E.length ≤ 64 ∧ life ≤ k + 1 ∧ ep < 256) := ⟨HEE.out, HEL.out, by have := HLF.out; omega, by omega⟩
                clear m9 x9 hb9 hep hr0
                have KN9 : Hid (w9.heap[nb]? = some (.cells (nm.map byt).toArray 60 (0, 0))) := X9.out.blk KN7.out (fun h => by rcases h with h | h; exact HNP.out.2 h; exact HNP.out.1 h)
                go_wp2_with fail
                refine (mlife_ok p b life ep D _ M9.out).mono ?_
                rintro e w10 ⟨rfl, rfl⟩
                go_wp2_with fail
                refine (mepoch_ok p b life ep D _ M9.out).mono ?_
                rintro e w10 ⟨rfl, rfl⟩
                go_wp2_with (first | (refine wpList_load_rowG (by rfl) 60 (.tmp 5) rfl nb rfl 60 (nm.map byt).toArray (0, 0) _ KN9.out hu60 rfl hi60' ?_) | fail)
                refine (mversion_ok p b life ep D nm hnl _ M9.out).mono ?_
                rintro e w10 ⟨rfl, x10⟩
                have X10 := Lib.hid x10
                clear x10
                go_wp2_with fail
                have MF : Hid (MarksAt w10 p b life ep D) := M9.out.ext X10.out (fun h => h) (fun h => h)
                have EF : Hid (Ext nob w w10) := ED.out.trans (X9.out.trans' X10.out.nob) (fun i hi h => by have h1 := HB.out; have h2 := HP.out; rcases h with h | h <;> omega)
                clear M9 X9 X10 KN9
                go_roundw
                case rel => exact ⟨k + 1, life, ep, D, E, by go_num, by omega, by omega, MF.out, C9.out.1, C9.out.2.1, C9.out.2.2.1, C9.out.2.2.2, EF.out⟩
                case measure => simp [intOf]; omega
              · rw [if_neg hr0]
                obtain ⟨ev, hev⟩ : ∃ ev, ev = raiseE epoch r.2.2 := ⟨_, rfl⟩
                rw [← hev]
                rintro e w9 ⟨rfl, m9, x9⟩
                have hne9 : ((ev : Int) != 0) = true := by rw [hev]; simp [hr0]
                have M9 := Lib.hid m9
                have X9 : Hid (Ext (fun i => i = p ∨ i = b) w7 w9) := x9.mono (fun i _ h => .inl h)
                clear m9 x9 hev hr0
                have KN9 : Hid (w9.heap[nb]? = some (.cells (nm.map byt).toArray 60 (0, 0))) := X9.out.blk KN7.out (fun h => by rcases h with h | h; exact HNP.out.2 h; exact HNP.out.1 h)
                go_wp2_with fail
                refine (mlife_ok p b life epoch D _ M9.out).mono ?_
                rintro e w10 ⟨rfl, rfl⟩
                go_wp2_with fail
                refine (mepoch_ok p b life epoch D _ M9.out).mono ?_
                rintro e w10 ⟨rfl, rfl⟩
                go_wp2_with (first | (refine wpList_load_rowG (by rfl) 60 (.tmp 5) rfl nb rfl 60 (nm.map byt).toArray (0, 0) _ KN9.out hu60 rfl hi60' ?_) | fail)
                refine (mversion_ok p b life epoch D nm hnl _ M9.out).mono ?_
                rintro e w10 ⟨rfl, x10⟩
                have X10 := Lib.hid x10
                clear x10
                go_wp2_with fail
                have MF : Hid (MarksAt w10 p b life epoch D) := M9.out.ext X10.out (fun h => h) (fun h => h)
                have EF : Hid (Ext nob w w10) := ED.out.trans (X9.out.trans' X10.out.nob) (fun i hi h => by have h1 := HB.out; have h2 := HP.out; rcases h with h | h <;> omega)
                have BF : Hid (Bytes w10 bo bm (marksB life epoch D)) := B7.out.ext (X9.out.trans' X10.out.nob) (fun k hk h => by
                  have h1 := F6.out k hk
                  have h2 := blk_lt HM.out.1
                  have h3 := HM.out.2.1.lt
                  have h4 := EW.out.size
                  rcases h with h | h <;> omega)
                clear M9 X9 X10 KN9
                refine (mbytesD_ok p b life epoch D _ MF.out HS64.out (by have := HLF.out; omega) HEP.out HEE.out.ver).mono ?_
                rintro e w11 ⟨co, cm, cc, rfl, b11, e11, -⟩
                have B11 := Lib.hid b11
                have BG : Hid (Bytes w11 bo bm (marksB life epoch D)) := BF.out.ext e11 (fun _ _ h => h)
                have MG : Hid (MarksAt w11 p b life epoch D) := MF.out.ext e11 (fun h => h) (fun h => h)
                have EG : Hid (Ext nob w w11) := EF.out.trans' e11
                obtain rfl : cm = bm := by rw [← B11.out.1, ← BG.out.1]
                clear b11 e11 BF MF EF
                go_wp2_with fail
                refine (eqb_same10 co bo cm _ _ _ _ B11.out BG.out).mono ?_
                rintro e w12 ⟨rfl, rfl⟩
                go_wp2_with fail
                clear B11 BG
                go_roundw
                case rel => exact ⟨k + 1, life, epoch, D, E, by go_num, by omega, by omega, MG.out, HEE.out, HEL.out, by have := HLF.out; omega, HEP.out, EG.out⟩
                case measure => simp [intOf]; omega
            · have hq1 : ((j0 : Int) == 1) = false := by simp; omega
              clear hz hz1
              go_wp2_with fail
              have HSN : Hid (∀ w', Ext nob w7 w' → (fun w' => w'.rangeAt nb 0 (nm.map byt)) w') := fun w' e => HSV.out _ (E7.out.trans' e)
              refine wp_region_held_drew (S := (fun w' => w'.rangeAt nb 0 (nm.map byt))) (by kernel_rfl) (HSN.out _ (Ext.refl _ w7).drew) (fun hHeld => ?_)
              refine wpAnyH_take (i := 0) (v := ?_) rfl (by kernel_rfl) (by kernel_rfl) (by kernel_rfl) (fun _ _ _ h => h) (Or.inl ⟨by rfl, ?_⟩) (by assumption) ?_
              rotate_left
              · intro w hSw; (try dsimp only at hSw); go_simp; try with_reducible rfl
              try simp only [Act.put, List.setIfInBounds_toArray, List.set_cons_zero, List.set_cons_succ]
              refine wpAnyH_take (i := 2) (v := ?_) rfl (by kernel_rfl) (by kernel_rfl) (by kernel_rfl) (fun _ _ _ h => h) (Or.inl ⟨by rfl, ?_⟩) (by assumption) ?_
              rotate_left
              · intro w hSw; (try dsimp only at hSw); go_simp; try with_reducible rfl
              try simp only [Act.put, List.setIfInBounds_toArray, List.set_cons_zero, List.set_cons_succ]
              refine wpAnyH_take (i := 3) (v := ?_) rfl (by kernel_rfl) (by kernel_rfl) (by kernel_rfl) (fun _ _ _ h => h) (Or.inl ⟨by rfl, ?_⟩) (by assumption) ?_
              rotate_left
              · intro w hSw; (try dsimp only at hSw); go_simp; try with_reducible rfl
              try simp only [Act.put, List.setIfInBounds_toArray, List.set_cons_zero, List.set_cons_succ]
              refine wpAnyH_take (i := 1) (v := .agg (nm.map byt).toArray) rfl (by kernel_rfl) (by kernel_rfl) (by kernel_rfl) (fun _ _ _ h => h) (yieldsIf_load_mid (by rfl) 60 (.tmp 5) rfl nb 0 rfl (nm.map byt) _ (fun w hSw => hSw) hu60 rfl hi60) (by assumption) ?_
              try simp only [Act.put, List.setIfInBounds_toArray, List.set_cons_zero, List.set_cons_succ]
              refine wpAnyH_ready (rs := [4]) (by kernel_rfl) (by simp) ?_
              refine AllReadyH.cons rfl (fun K hK => ?_) AllReadyH.nil
              go_simp
              go_at_call 27
              refine (env_any _ _).mono ?_
              rintro e w8 ⟨ge, rfl, b8, e8, -⟩
              have E8 : Hid (Ext nob w7 w8) := (Ext.refl nob w7).drew.trans' e8
              have B8 := Lib.hid b8
              clear e8 b8
              go_wp2_with fail
              refine hK.out _ _ (HSN.out _ E8.out) (fun hHeld => ?_)
              clear hK K
              try simp only [Act.put, List.setIfInBounds_toArray, List.set_cons_zero, List.set_cons_succ]
              refine wpAnyH_ready (rs := [5]) (by kernel_rfl) (by simp) ?_
              refine AllReadyH.cons rfl (fun K hK => ?_) AllReadyH.nil
              go_simp
              go_at_call 31
              refine (mnote_ok p b life epoch D nm hnl r.2.2 _ 3 3 (envB r.2.2) _ (MD.out.ext E8.out (fun h => h) (fun h => h)) HS64.out B8.out (by simp [big]) (HG.out.ext (ED.out.trans' E8.out) (fun h => h) (fun h => h))).mono ?_
              have KN8 := Lib.hid (E8.out.blk KN7.out (fun h => h))
              have HS9 : Hid (∀ w', Ext (fun i => i = b) w8 w' → (fun w' => w'.rangeAt nb 0 (nm.map byt)) w') := fun w' e => fun j v hj => cell_of' (e.blk KN8.out (fun h => HNP.out.1 h)) (by rw [Nat.zero_add]; simpa using hj)
              obtain ⟨E', hE', hE64⟩ := HEE.out.note HEL.out hnl r.2.2 (envB r.2.2)
              have hvr := noteD_ver (HEE.out.good HEL.out) nm r.2.2 (envB r.2.2) nm
              by_cases hr0 : noteE D nm r.2.2 (envB r.2.2) = 0
              · rw [hr0]
                obtain ⟨D', hD'⟩ : ∃ D', D' = noteD D nm r.2.2 (envB r.2.2) := ⟨_, rfl⟩
                rw [← hD'] at hE' hvr ⊢
                have HE' := Lib.hid hE'
                have HE64 := Lib.hid hE64
                clear hE' hE64 hD' hr0
                rintro e w9 ⟨rfl, m9, x9⟩
                go_wp2_with fail
                refine hK.out _ _ (HS9.out _ x9) (fun hHeld => ?_)
                clear hK K
                try simp only [Act.put, List.setIfInBounds_toArray, List.set_cons_zero, List.set_cons_succ]
                refine wpAnyH_take (i := 6) (v := ?_) rfl (by kernel_rfl) (by kernel_rfl) (by kernel_rfl) (fun _ _ _ h => h) (Or.inl ⟨by rfl, ?_⟩) (by assumption) ?_
                rotate_left
                · intro w hSw; (try dsimp only at hSw); go_simp; try with_reducible rfl
                try simp only [Act.put, List.setIfInBounds_toArray, List.set_cons_zero, List.set_cons_succ]
                simp only [List.getElem_toArray, List.getElem_cons_succ, List.getElem_cons_zero, Act.put, List.setIfInBounds_toArray, List.set_cons_zero, List.set_cons_succ]
                refine wpAnyH_done (by kernel_rfl) ?_ _
                have M9 := Lib.hid m9
                have X9 : Hid (Ext (fun i => i = p ∨ i = b) w7 w9) := E8.out.nob.trans x9 (fun i _ h => .inr h)
                have hv9 : decide (verD D' nm < verD D nm) = false := by simp; exact hvr
                have hv8 : ¬ (verD D' nm < verD D nm) := by omega
                have C9 : Hid (Enc D' E' ∧ E'.length ≤ 64 ∧ life ≤ k + 1 ∧ epoch < 256) := ⟨HE'.out, HE64.out, by have := HLF.out; omega, HEP.out⟩
                clear m9 x9 hvr
                have KN9 : Hid (w9.heap[nb]? = some (.cells (nm.map byt).toArray 60 (0, 0))) := X9.out.blk KN7.out (fun h => by rcases h with h | h; exact HNP.out.2 h; exact HNP.out.1 h)
                go_wp2_with fail
                refine (mlife_ok p b life epoch D' _ M9.out).mono ?_
                rintro e w10 ⟨rfl, rfl⟩
                go_wp2_with fail
                refine (mepoch_ok p b life epoch D' _ M9.out).mono ?_
                rintro e w10 ⟨rfl, rfl⟩
                go_wp2_with (first | (refine wpList_load_rowG (by rfl) 60 (.tmp 5) rfl nb rfl 60 (nm.map byt).toArray (0, 0) _ KN9.out hu60 rfl hi60' ?_) | fail)
                refine (mversion_ok p b life epoch D' nm hnl _ M9.out).mono ?_
                rintro e w10 ⟨rfl, x10⟩
                have X10 := Lib.hid x10
                clear x10
                go_wp2_with fail
                have MF : Hid (MarksAt w10 p b life epoch D') := M9.out.ext X10.out (fun h => h) (fun h => h)
                have EF : Hid (Ext nob w w10) := ED.out.trans (X9.out.trans' X10.out.nob) (fun i hi h => by have h1 := HB.out; have h2 := HP.out; rcases h with h | h <;> omega)
                clear M9 X9 X10 KN9
                go_roundw
                case rel => exact ⟨k + 1, life, epoch, D', E', by go_num, by omega, by omega, MF.out, C9.out.1, C9.out.2.1, C9.out.2.2.1, C9.out.2.2.2, EF.out⟩
                case measure => simp [intOf]; omega
              · rw [noteD_err hr0]
                obtain ⟨ev, hev⟩ : ∃ ev, ev = noteE D nm r.2.2 (envB r.2.2) := ⟨_, rfl⟩
                rw [← hev]
                have hne9 : ((ev : Int) != 0) = true := by rw [hev]; simp [hr0]
                clear hev hr0 hE' hE64 hvr
                rintro e w9 ⟨rfl, m9, x9⟩
                go_wp2_with fail
                refine hK.out _ _ (HS9.out _ x9) (fun hHeld => ?_)
                clear hK K
                try simp only [Act.put, List.setIfInBounds_toArray, List.set_cons_zero, List.set_cons_succ]
                refine wpAnyH_take (i := 6) (v := ?_) rfl (by kernel_rfl) (by kernel_rfl) (by kernel_rfl) (fun _ _ _ h => h) (Or.inl ⟨by rfl, ?_⟩) (by assumption) ?_
                rotate_left
                · intro w hSw; (try dsimp only at hSw); go_simp; try with_reducible rfl
                try simp only [Act.put, List.setIfInBounds_toArray, List.set_cons_zero, List.set_cons_succ]
                simp only [List.getElem_toArray, List.getElem_cons_succ, List.getElem_cons_zero, Act.put, List.setIfInBounds_toArray, List.set_cons_zero, List.set_cons_succ]
                refine wpAnyH_done (by kernel_rfl) ?_ _
                have M9 := Lib.hid m9
                have X9 : Hid (Ext (fun i => i = p ∨ i = b) w7 w9) := E8.out.nob.trans x9 (fun i _ h => .inr h)
                clear m9 x9
                have KN9 : Hid (w9.heap[nb]? = some (.cells (nm.map byt).toArray 60 (0, 0))) := X9.out.blk KN7.out (fun h => by rcases h with h | h; exact HNP.out.2 h; exact HNP.out.1 h)
                go_wp2_with fail
                refine (mlife_ok p b life epoch D _ M9.out).mono ?_
                rintro e w10 ⟨rfl, rfl⟩
                go_wp2_with fail
                refine (mepoch_ok p b life epoch D _ M9.out).mono ?_
                rintro e w10 ⟨rfl, rfl⟩
                go_wp2_with (first | (refine wpList_load_rowG (by rfl) 60 (.tmp 5) rfl nb rfl 60 (nm.map byt).toArray (0, 0) _ KN9.out hu60 rfl hi60' ?_) | fail)
                refine (mversion_ok p b life epoch D nm hnl _ M9.out).mono ?_
                rintro e w10 ⟨rfl, x10⟩
                have X10 := Lib.hid x10
                clear x10
                go_wp2_with fail
                have MF : Hid (MarksAt w10 p b life epoch D) := M9.out.ext X10.out (fun h => h) (fun h => h)
                have EF : Hid (Ext nob w w10) := ED.out.trans (X9.out.trans' X10.out.nob) (fun i hi h => by have h1 := HB.out; have h2 := HP.out; rcases h with h | h <;> omega)
                have BF : Hid (Bytes w10 bo bm (marksB life epoch D)) := B7.out.ext (X9.out.trans' X10.out.nob) (fun k hk h => by
                  have h1 := F6.out k hk
                  have h2 := blk_lt HM.out.1
                  have h3 := HM.out.2.1.lt
                  have h4 := EW.out.size
                  rcases h with h | h <;> omega)
                clear M9 X9 X10 KN9
                refine (mbytesD_ok p b life epoch D _ MF.out HS64.out (by have := HLF.out; omega) HEP.out HEE.out.ver).mono ?_
                rintro e w11 ⟨co, cm, cc, rfl, b11, e11, -⟩
                have B11 := Lib.hid b11
                have BG : Hid (Bytes w11 bo bm (marksB life epoch D)) := BF.out.ext e11 (fun _ _ h => h)
                have MG : Hid (MarksAt w11 p b life epoch D) := MF.out.ext e11 (fun h => h) (fun h => h)
                have EG : Hid (Ext nob w w11) := EF.out.trans' e11
                obtain rfl : cm = bm := by rw [← B11.out.1, ← BG.out.1]
                clear b11 e11 BF MF EF
                go_wp2_with fail
                refine (eqb_same10 co bo cm _ _ _ _ B11.out BG.out).mono ?_
                rintro e w12 ⟨rfl, rfl⟩
                go_wp2_with fail
                clear B11 BG
                go_roundw
                case rel => exact ⟨k + 1, life, epoch, D, E, by go_num, by omega, by omega, MG.out, HEE.out, HEL.out, by have := HLF.out; omega, HEP.out, EG.out⟩
                case measure => simp [intOf]; omega
      · have hki : (k : Int) < n := by omega
        have hki2 : ¬ (k : Int) < 60 := by omega
        go_wp2_with fail
        refine (works10_ok _ (HG.out.ext HE.out (fun h => h) (fun h => h))).mono ?_
        rintro e w2 ⟨rfl, e2⟩
        have E2 := Lib.hid e2
        clear e2
        go_wp2_with fail
        go_ret
        exact ⟨rfl, HE.out.trans' E2.out⟩
    · have hki : ¬ (k : Int) < n := by omega
      go_wp2_with fail
      refine (works10_ok _ (HG.out.ext HE.out (fun h => h) (fun h => h))).mono ?_
      rintro e w2 ⟨rfl, e2⟩
      have E2 := Lib.hid e2
      clear e2
      go_wp2_with fail
      go_ret
      exact ⟨rfl, HE.out.trans' E2.out⟩
end Go.Proofs.YtfgfhfmhadondaaDoor
