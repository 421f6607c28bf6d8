/- sealchainlaw10.MarkApart: the walk. -/
import Derived.Test.YtfgfhfmhadondaaDoorApartP
namespace Go.Proofs.YtfgfhfmhadondaaDoor
open Go.RowKit Go.Maps
set_option maxHeartbeats 400000

theorem note_lit (p b life epoch : Nat) (D : DataW Unit) (n : List UInt8) (hn : n.length = 32) (v : Int) (ao : Option Addr) (m c : Nat) (env : List UInt8) (ev : Nat) (w : World) (hx : noteE D n v env = ev) (h : MarksAt w p b life epoch D) (hs : Maps.size D ≤ 64) (hb : Bytes w ao m env) (hm : m + 80 ≤ big) (hG : Laid w) :
    Calls Tryd.prog 31 #[.pointer (some ⟨p, 0, none⟩), nameV n, .int .i64 v, .slice ao m c] w fun e w' => e = .returned (.int .i64 (ev : Int)) ∧ MarksAt w' p b life epoch (noteD D n v env) ∧ Ext (fun k => k = b) w w' := by
  subst hx
  exact mnote_ok p b life epoch D n hn v ao m c env w h hs hb hm hG
theorem mlen_nat (p b life epoch : Nat) (D : DataW Unit) (s : Nat) (w : World) (h : MarksAt w p b life epoch D) (hs : Maps.size D = s) :
    Calls Tryd.prog 35 #[.pointer (some ⟨p, 0, none⟩)] w fun e w' => e = .returned (.int .i64 (s : Int)) ∧ w = w' := by
  subst hs
  exact mlen_ok p b life epoch D w h
theorem mver_nat (p b life epoch : Nat) (D : DataW Unit) (n : List UInt8) (hn : n.length = 32) (u : Nat) (w : World) (h : MarksAt w p b life epoch D) (hu : verD D n = (u : Int)) :
    Calls Tryd.prog 34 #[.pointer (some ⟨p, 0, none⟩), nameV n] w fun e w' => e = .returned (.int .i64 (u : Int)) ∧ Ext nob w w' := by
  rw [← hu]
  exact mversion_ok p b life epoch D n hn w h
theorem mnew_far (w : World) : Calls Tryd.prog 26 #[] w fun e w' => ∃ p b, e = .returned (.pointer (some ⟨p, 0, none⟩)) ∧ MarksAt w' p b 0 0 D0 ∧ Ext nob w w' ∧ w.heap.size ≤ p ∧ w.heap.size ≤ b := by
  refine (mnew_ok w).mono ?_
  rintro e w' ⟨rfl, h1, h2⟩
  exact ⟨_, _, rfl, h1, h2, Nat.le_succ _, Nat.le_refl _⟩

set_option linter.unusedSimpArgs false in
set_option maxRecDepth 20000 in
set_option maxHeartbeats 4000000 in
theorem markApart_ok (ao : Option Addr) (n c : Nat) (xs : List Pair) (w : World) (hx : PairsAt w ao n xs) (hn : n < 4611686018427387904) (hG : Laid w) :
    Calls Tryd.prog 6 #[.slice ao n c] w fun e w' => e = .returned (.bool true) ∧ Ext nob w w' := by
  have HX := Lib.hid hx
  have HN := Lib.hid hn
  have HG := Lib.hid hG
  have hxl : xs.length = n := hx.1
  clear hx hn hG
  have hu60 := Tryd.underlying60
  go_enter Tryd.func6, Tryd.ntmps6
  go_wp2_with fail
  refine (mnew_far _).mono ?_
  rintro e w1 ⟨p, b, rfl, m1, e1, hp1, hb1⟩
  have M1 := Lib.hid m1
  have E1 := Lib.hid e1
  have HP : Hid (w.heap.size ≤ p ∧ w.heap.size ≤ b) := ⟨hp1, hb1⟩
  clear m1 e1 hp1 hb1
  go_wp2_with fail
  refine (mnew_far _).mono ?_
  rintro e w2 ⟨p2, b2, rfl, m2, e2, hp2, hb2⟩
  have M2 := Lib.hid m2
  have MA : Hid (MarksAt w2 p b 0 0 D0) := M1.out.ext e2 (fun h => h) (fun h => h)
  have HP2 : Hid (w.heap.size ≤ p2 ∧ w.heap.size ≤ b2 ∧ b ≠ p2 ∧ b ≠ b2 ∧ p ≠ p2 ∧ p ≠ b2) := by
    have h1 := blk_lt M1.out.1
    have h2 := M1.out.2.1.lt
    have h3 := E1.out.size
    exact ⟨by omega, by omega, by omega, by omega, by omega, by omega⟩
  have E2 : Hid (Ext nob w w2) := E1.out.trans' e2
  clear m2 e2 hp2 hb2 M1 E1
  go_wp2_with fail
  go_loopw [5] (fun i wr => ∃ (k : Nat) (D : DataW Unit) (E : List Ent), i = .int .i64 (k : Int) ∧ k ≤ n ∧ k ≤ 60 ∧ MarksAt wr p b 0 0 D ∧ MarksAt wr p2 b2 0 0 D0 ∧ AP 60 D E (mxF ((xs.take k).map apj)) ∧ Ext nob w wr) (fun i _ => n - (intOf i).toNat)
  case atStart => exact ⟨0, D0, [], rfl, by omega, by omega, MA.out, M2.out, ap0 60, E2.out⟩
  case round =>
    obtain ⟨k, D, E, rfl, hk, hk6, hm, hm2, hE, he⟩ := hrel
    have HM := Lib.hid hm
    have HM2 := Lib.hid hm2
    have HA := Lib.hid hE
    have HE := Lib.hid he
    have hb : n < 4611686018427387904 := HN.out
    clear hm hm2 hE he
    by_cases hkn : k < n
    · by_cases hk2 : k < 60
      · have hki : (k : Int) < n := by omega
        have hki2 : (k : Int) < 60 := by omega
        obtain ⟨r, hr⟩ : ∃ r, xs[k]? = some r := ⟨xs[k]'(by omega), List.getElem?_eq_getElem _⟩
        obtain ⟨x1, x2⟩ := HX.out.ext HE.out (fun _ _ h => h)
        have hne : xs.flatMap pairC ≠ [] := fun h => by have := flat_len pairC 2 (fun _ => rfl) xs; rw [h] at this; simp at this; omega
        obtain ⟨g, o, rfl⟩ := x2.addr hne
        obtain ⟨c0, c1⟩ := pair_cells x2 k r hr
        have hg : g < wr.heap.size := World.block_lt_of_cell? wr _ c0
        obtain ⟨j0, hj0⟩ : ∃ j : Nat, r.1 % ((60 : Nat) : Int) = (j : Int) := ⟨(r.1 % 60).toNat, by omega⟩
        obtain ⟨j1, hj1⟩ : ∃ j : Nat, r.2 % ((99 : Nat) : Int) = (j : Int) := ⟨(r.2 % 99).toNat, by omega⟩
        have hj0l : j0 < 60 := by omega
        have hj1l : j1 < 99 := by omega
        have hcv : IntKind.u8.wrap (j0 : Int) = (j0 : Int) := u8_small j0 (by omega)
        have HAP : Hid (apj r = (j0, 1 + j1)) := by show apj r = _; unfold apj; rw [show (r.1 % 60).toNat = j0 by omega, show (r.2 % 99).toNat = j1 by omega]
        have HTK : Hid ((xs.take (k + 1)).map apj = (xs.take k).map apj ++ [(j0, 1 + j1)]) := by
          show _ = _
          rw [← HAP.out, List.take_add_one, hr, List.map_append]
          rfl
        clear hne x1 x2 hr
        go_wp2_with fail
        refine (bring_nat _ 60 _ rfl (by omega) (by omega) j0 hj0 _).mono ?_
        rintro e w3 ⟨rfl, rfl⟩
        go_wp2_with fail
        refine (name_nat j0 (by omega) _).mono ?_
        rintro e w4 ⟨rfl, e4⟩
        have E4 := Lib.hid e4
        clear e4
        have hi60 : (Tryd.prog.info? 60).map (·.size) = some ((nmJ j0).map byt).toArray.size := by kernel_rfl
        have hone60 : ((nmJ j0).map byt).toArray.all (·.oneCell') = true := all_oneCell_toArray (fun u hu => oneCell_byt _ u hu)
        go_upto_region 6 with (first
          | (refine wpList_store_new rfl 60 (.tmp 6) (.tmp 32) rfl w4.heap.size ((nmJ j0).map byt).toArray rfl rfl 60 _ (blk_new w4 _) hi60 rfl hone60 ?_; intro w5 k5 e5)
          | fail)
        have E5 : Hid (Ext nob wr w5) := (E4.out.alloc _).trans e5 (fun i hi h => absurd hi (by have := E4.out.size; rw [h]; omega))
        obtain ⟨nb, hnb⟩ : ∃ nb, nb = w4.heap.size := ⟨_, rfl⟩
        rw [← hnb] at k5 ⊢
        have K5 := Lib.hid k5
        have NB : Hid (wr.heap.size ≤ nb) := by rw [hnb]; exact E4.out.size
        obtain ⟨nm, hnm⟩ : ∃ nm, nm = nmJ j0 := ⟨_, rfl⟩
        have HNM := Lib.hid hnm
        have hnl : nm.length = 32 := by rw [hnm]; rfl
        rw [← hnm] at K5 hi60
        have d1 := E5.out.cell c1 (fun h => h)
        have hg5 : g < w5.heap.size := Nat.lt_of_lt_of_le hg E5.out.size
        clear e5 k5 hnb hnm E4 hone60 c0 c1 hg
        obtain ⟨v, hv⟩ : ∃ v, v = 1 + j1 := ⟨_, rfl⟩
        have hw1 : IntKind.i64.wrap (1 + (j1 : Int)) = 1 + (j1 : Int) := by rw [IntWalk.i64_in _ (by omega)]
        go_wp2_with fail
        refine (bring_nat _ 99 _ rfl (by omega) (by omega) j1 hj1 _).mono ?_
        rintro e w6 ⟨rfl, rfl⟩
        go_wp2_with fail
        have HV : Hid (0 < v ∧ v ≤ 1000) := ⟨by omega, by omega⟩
        rw [← hv] at HTK
        obtain ⟨HN1, E', HA', hsz⟩ := HA.out.note (by omega) hj0l HV.out.1 HV.out.2
        rw [← HNM.out] at HN1 HA' hsz
        obtain ⟨u, hu⟩ : ∃ u, u = mxF ((xs.take k).map apj) j0 := ⟨_, rfl⟩
        rw [← hu] at HN1 hsz
        have hver : verD D nm = (u : Int) := by rw [HNM.out, hu]; exact HA.out.ver j0 hj0l
        have HAF : Hid (AP 60 (noteD D nm v (envB v)) E' (mxF ((xs.take (k + 1)).map apj))) := by
          have h1 : (fun i => if i = j0 then max v (mxF ((xs.take k).map apj) i) else mxF ((xs.take k).map apj) i) = mxF ((xs.take (k + 1)).map apj) := by
            funext i
            rw [HTK.out]
            exact mxF_snoc _ (j0, v) i
          rw [← h1]
          exact HA'
        obtain ⟨sz, hszd⟩ : ∃ sz, sz = Maps.size D := ⟨_, rfl⟩
        obtain ⟨sz2, hszd2⟩ : ∃ sz2, sz2 = Maps.size (noteD D nm v (envB v)) := ⟨_, rfl⟩
        rw [← hszd, ← hszd2] at hsz
        have HSZ := Lib.hid hszd.symm
        have HSZ2 := Lib.hid hszd2.symm
        have HVER := Lib.hid hver
        have hsz6 : sz ≤ 60 := by rw [hszd, HA.out.enc.size]; exact HA.out.len
        have hs64 : Maps.size D ≤ 64 := by rw [← hszd]; omega
        have HS64 := Lib.hid hs64
        have HN1' := Lib.hid HN1
        have MC : Hid (MarksAt w5 p b 0 0 D) := HM.out.ext E5.out (fun h => h) (fun h => h)
        have MC2 : Hid (MarksAt w5 p2 b2 0 0 D0) := HM2.out.ext E5.out (fun h => h) (fun h => h)
        have HEW : Hid (Ext nob w w5) := HE.out.trans' E5.out
        have HSV : Hid (∀ w', Ext nob w5 w' → (fun w' => w'.rangeAt nb 0 (nm.map byt)) w') := fun w' e => fun j v hj => cell_of' (e.blk K5.out (fun h => h)) (by rw [Nat.zero_add]; simpa using hj)
        have hi60' : (Tryd.prog.info? 60).map (·.size) = some (nm.map byt).length := by rw [List.length_map, hnl]; kernel_rfl
        obtain ⟨mu, hmu⟩ : ∃ mu, mu = min u 1 := ⟨_, rfl⟩
        have hminu : min (u : Int) 1 = (mu : Int) := by omega
        have hmu1 : mu ≤ 1 := by omega
        have hsub : (sz : Int) + 1 - (mu : Int) = (sz2 : Int) := by omega
        have hvi : 1 + (j1 : Int) = (v : Int) := by omega
        rw [hvi]
        clear HN1 HA' hver hszd hszd2 hs64 hu hv hw1 d1 hg5 hmu hsz hvi
        refine wp_region_held_drew (S := (fun w' => w'.rangeAt nb 0 (nm.map byt))) (by kernel_rfl) (HSV.out _ (Ext.refl _ w5).drew) (fun hHeld => ?_)
        refine wpAnyH_take (i := 0) (v := ?_) rfl (by kernel_rfl) (by kernel_rfl) (by kernel_rfl) (fun _ _ _ h => h) (Or.inl ⟨by rfl, ?_⟩) (by assumption) ?_
        rotate_left
        · intro w hSw; (try dsimp only at hSw); go_simp; try with_reducible rfl
        try simp only [Act.put, List.setIfInBounds_toArray, List.set_cons_zero, List.set_cons_succ]
        refine wpAnyH_take (i := 2) (v := ?_) rfl (by kernel_rfl) (by kernel_rfl) (by kernel_rfl) (fun _ _ _ h => h) (Or.inl ⟨by rfl, ?_⟩) (by assumption) ?_
        rotate_left
        · intro w hSw; (try dsimp only at hSw); go_simp; try with_reducible rfl
        try simp only [Act.put, List.setIfInBounds_toArray, List.set_cons_zero, List.set_cons_succ]
        refine wpAnyH_take (i := 3) (v := .agg (nm.map byt).toArray) rfl (by kernel_rfl) (by kernel_rfl) (by kernel_rfl) (fun _ _ _ h => h) (yieldsIf_load_mid (by rfl) 60 (.tmp 6) rfl nb 0 rfl (nm.map byt) _ (fun w hSw => hSw) hu60 rfl hi60') (by assumption) ?_
        try simp only [Act.put, List.setIfInBounds_toArray, List.set_cons_zero, List.set_cons_succ]
        refine wpAnyH_ready (rs := [1]) (by kernel_rfl) (by simp) ?_
        refine AllReadyH.cons rfl (fun K hK => ?_) AllReadyH.nil
        go_simp
        go_at_call 35
        refine (mlen_nat p b 0 0 D sz _ (MC.out.ext (Ext.refl nob w5).drew (fun h => h) (fun h => h)) HSZ.out).mono ?_
        rintro e w6 ⟨rfl, hw6⟩
        have E6 : Hid (Ext nob w5 w6) := by rw [← hw6]; exact (Ext.refl nob w5).drew
        clear hw6
        go_wp2_with fail
        refine hK.out _ _ (HSV.out _ E6.out) (fun hHeld => ?_)
        clear hK K
        try simp only [Act.put, List.setIfInBounds_toArray, List.set_cons_zero, List.set_cons_succ]
        refine wpAnyH_ready (rs := [4]) (by kernel_rfl) (by simp) ?_
        refine AllReadyH.cons rfl (fun K hK => ?_) AllReadyH.nil
        go_simp
        go_at_call 34
        refine (mver_nat p b 0 0 D nm hnl u _ (MC.out.ext E6.out (fun h => h) (fun h => h)) HVER.out).mono ?_
        rintro e w7 ⟨rfl, e7⟩
        have E7 : Hid (Ext nob w5 w7) := E6.out.trans' e7
        clear e7 E6
        go_wp2_with fail
        refine hK.out _ _ (HSV.out _ E7.out) (fun hHeld => ?_)
        clear hK K
        try simp only [Act.put, List.setIfInBounds_toArray, List.set_cons_zero, List.set_cons_succ]
        refine wpAnyH_take (i := 5) (v := ?_) rfl (by kernel_rfl) (by kernel_rfl) (by kernel_rfl) (fun _ _ _ h => h) (Or.inl ⟨by rfl, ?_⟩) (by assumption) ?_
        rotate_left
        · intro w hSw; (try dsimp only at hSw); go_simp; try with_reducible rfl
        try simp only [Act.put, List.setIfInBounds_toArray, List.set_cons_zero, List.set_cons_succ]
        refine wpAnyH_take (i := 6) (v := ?_) rfl (by kernel_rfl) (by kernel_rfl) (by kernel_rfl) (fun _ _ _ h => h) (Or.inl ⟨by rfl, ?_⟩) (by assumption) ?_
        rotate_left
        · intro w hSw; (try dsimp only at hSw); go_simp; try with_reducible rfl
        try simp only [Act.put, List.setIfInBounds_toArray, List.set_cons_zero, List.set_cons_succ]
        try simp only [List.getElem_toArray, List.getElem_cons_succ, List.getElem_cons_zero, Act.put, List.setIfInBounds_toArray, List.set_cons_zero, List.set_cons_succ]
        refine wpAnyH_done (by kernel_rfl) ?_ _
        have MD : Hid (MarksAt w7 p b 0 0 D) := MC.out.ext E7.out (fun h => h) (fun h => h)
        have MD2 : Hid (MarksAt w7 p2 b2 0 0 D0) := MC2.out.ext E7.out (fun h => h) (fun h => h)
        have ED : Hid (Ext nob w w7) := HEW.out.trans' E7.out
        have HSN : Hid (∀ w', Ext nob w7 w' → (fun w' => w'.rangeAt nb 0 (nm.map byt)) w') := fun w' e => HSV.out _ (E7.out.trans' e)
        have KN7 := Lib.hid (E7.out.blk K5.out (fun h => h))
        have HNP : Hid (nb ≠ b) := by
          have h1 := HM.out.2.1.lt
          have h3 := NB.out
          show nb ≠ b
          omega
        clear MC MC2 HEW HSV
        go_wp2_with fail
        refine wp_region_held_drew (S := (fun w' => w'.rangeAt nb 0 (nm.map byt))) (by kernel_rfl) (HSN.out _ (Ext.refl _ w7).drew) (fun hHeld => ?_)
        refine wpAnyH_take (i := 0) (v := ?_) rfl (by kernel_rfl) (by kernel_rfl) (by kernel_rfl) (fun _ _ _ h => h) (Or.inl ⟨by rfl, ?_⟩) (by assumption) ?_
        rotate_left
        · intro w hSw; (try dsimp only at hSw); go_simp; try with_reducible rfl
        try simp only [Act.put, List.setIfInBounds_toArray, List.set_cons_zero, List.set_cons_succ]
        refine wpAnyH_take (i := 2) (v := ?_) rfl (by kernel_rfl) (by kernel_rfl) (by kernel_rfl) (fun _ _ _ h => h) (Or.inl ⟨by rfl, ?_⟩) (by assumption) ?_
        rotate_left
        · intro w hSw; (try dsimp only at hSw); go_simp; try with_reducible rfl
        try simp only [Act.put, List.setIfInBounds_toArray, List.set_cons_zero, List.set_cons_succ]
        refine wpAnyH_take (i := 3) (v := ?_) rfl (by kernel_rfl) (by kernel_rfl) (by kernel_rfl) (fun _ _ _ h => h) (Or.inl ⟨by rfl, ?_⟩) (by assumption) ?_
        rotate_left
        · intro w hSw; (try dsimp only at hSw); go_simp; try with_reducible rfl
        try simp only [Act.put, List.setIfInBounds_toArray, List.set_cons_zero, List.set_cons_succ]
        refine wpAnyH_take (i := 1) (v := .agg (nm.map byt).toArray) rfl (by kernel_rfl) (by kernel_rfl) (by kernel_rfl) (fun _ _ _ h => h) (yieldsIf_load_mid (by rfl) 60 (.tmp 6) rfl nb 0 rfl (nm.map byt) _ (fun w hSw => hSw) hu60 rfl hi60') (by assumption) ?_
        try simp only [Act.put, List.setIfInBounds_toArray, List.set_cons_zero, List.set_cons_succ]
        refine wpAnyH_ready (rs := [4]) (by kernel_rfl) (by simp) ?_
        refine AllReadyH.cons rfl (fun K hK => ?_) AllReadyH.nil
        go_simp
        go_at_call 27
        refine (env_any _ _).mono ?_
        rintro e w8 ⟨ge, rfl, b8, e8, -⟩
        have E8 : Hid (Ext nob w7 w8) := (Ext.refl nob w7).drew.trans' e8
        have B8 := Lib.hid b8
        clear e8 b8
        go_wp2_with fail
        refine hK.out _ _ (HSN.out _ E8.out) (fun hHeld => ?_)
        clear hK K
        try simp only [Act.put, List.setIfInBounds_toArray, List.set_cons_zero, List.set_cons_succ]
        refine wpAnyH_ready (rs := [5]) (by kernel_rfl) (by simp) ?_
        refine AllReadyH.cons rfl (fun K hK => ?_) AllReadyH.nil
        go_simp
        go_at_call 31
        have KN8 := Lib.hid (E8.out.blk KN7.out (fun h => h))
        have HS9 : Hid (∀ w', Ext (fun i => i = b) w8 w' → (fun w' => w'.rangeAt nb 0 (nm.map byt)) w') := fun w' e => fun j v hj => cell_of' (e.blk KN8.out (fun h => HNP.out h)) (by rw [Nat.zero_add]; simpa using hj)
        by_cases hle : u ≤ v
        · refine (note_lit p b 0 0 D nm hnl v _ 3 3 (envB v) 0 _ (HN1'.out.2 hle) (MD.out.ext E8.out (fun h => h) (fun h => h)) HS64.out B8.out (by simp [big]) (HG.out.ext (ED.out.trans' E8.out) (fun h => h) (fun h => h))).mono ?_
          have hd9 : decide (u ≤ v) = true := by simpa using hle
          rintro e w9 ⟨rfl, m9, x9⟩
          have M9 := Lib.hid m9
          have M92 : Hid (MarksAt w9 p2 b2 0 0 D0) := (MD2.out.ext E8.out (fun h => h) (fun h => h)).ext x9 (fun h => HP2.out.2.2.1 h.symm) (fun h => HP2.out.2.2.2.1 h.symm)
          have E9 : Hid (Ext nob w w9) := (ED.out.trans' E8.out).trans x9 (fun i hi h => by have h1 := HP.out.2; have h2 : i = b := h; omega)
          go_wp2_with fail
          refine hK.out _ _ (HS9.out _ x9) (fun hHeld => ?_)
          clear hK K
          try simp only [Act.put, List.setIfInBounds_toArray, List.set_cons_zero, List.set_cons_succ]
          refine wpAnyH_take (i := 6) (v := ?_) rfl (by kernel_rfl) (by kernel_rfl) (by kernel_rfl) (fun _ _ _ h => h) (Or.inl ⟨by rfl, ?_⟩) (by assumption) ?_
          rotate_left
          · intro w hSw; (try dsimp only at hSw); go_simp; try with_reducible rfl
          try simp only [Act.put, List.setIfInBounds_toArray, List.set_cons_zero, List.set_cons_succ]
          try simp only [List.getElem_toArray, List.getElem_cons_succ, List.getElem_cons_zero, Act.put, List.setIfInBounds_toArray, List.set_cons_zero, List.set_cons_succ]
          refine wpAnyH_done (by kernel_rfl) ?_ _
          clear m9 x9 MD MD2 ED HSN HS9 KN8 KN7
          go_wp2_with fail
          refine (mlen_nat p b 0 0 _ sz2 _ M9.out HSZ2.out).mono ?_
          rintro e w10 ⟨rfl, rfl⟩
          go_wp2_with fail
          go_roundw
          case rel => exact ⟨k + 1, _, E', by go_num, by omega, by omega, M9.out, M92.out, HAF.out, E9.out⟩
          case measure => simp [intOf]; omega
        · obtain ⟨ev, hev⟩ : ∃ ev, ev = noteE D nm v (envB v) := ⟨_, rfl⟩
          have hne9 : ((ev : Int) == 0) = false := by
            have : ev ≠ 0 := fun h => hle (HN1'.out.1 (by rw [← hev]; exact h))
            simp [this]
          refine (note_lit p b 0 0 D nm hnl v _ 3 3 (envB v) ev _ hev.symm (MD.out.ext E8.out (fun h => h) (fun h => h)) HS64.out B8.out (by simp [big]) (HG.out.ext (ED.out.trans' E8.out) (fun h => h) (fun h => h))).mono ?_
          have hd9 : decide (u ≤ v) = false := by simpa using hle
          clear hev
          rintro e w9 ⟨rfl, m9, x9⟩
          have M9 := Lib.hid m9
          have M92 : Hid (MarksAt w9 p2 b2 0 0 D0) := (MD2.out.ext E8.out (fun h => h) (fun h => h)).ext x9 (fun h => HP2.out.2.2.1 h.symm) (fun h => HP2.out.2.2.2.1 h.symm)
          have E9 : Hid (Ext nob w w9) := (ED.out.trans' E8.out).trans x9 (fun i hi h => by have h1 := HP.out.2; have h2 : i = b := h; omega)
          go_wp2_with fail
          refine hK.out _ _ (HS9.out _ x9) (fun hHeld => ?_)
          clear hK K
          try simp only [Act.put, List.setIfInBounds_toArray, List.set_cons_zero, List.set_cons_succ]
          refine wpAnyH_take (i := 6) (v := ?_) rfl (by kernel_rfl) (by kernel_rfl) (by kernel_rfl) (fun _ _ _ h => h) (Or.inl ⟨by rfl, ?_⟩) (by assumption) ?_
          rotate_left
          · intro w hSw; (try dsimp only at hSw); go_simp; try with_reducible rfl
          try simp only [Act.put, List.setIfInBounds_toArray, List.set_cons_zero, List.set_cons_succ]
          try simp only [List.getElem_toArray, List.getElem_cons_succ, List.getElem_cons_zero, Act.put, List.setIfInBounds_toArray, List.set_cons_zero, List.set_cons_succ]
          refine wpAnyH_done (by kernel_rfl) ?_ _
          clear m9 x9 MD MD2 ED HSN HS9 KN8 KN7
          go_wp2_with fail
          refine (mlen_nat p b 0 0 _ sz2 _ M9.out HSZ2.out).mono ?_
          rintro e w10 ⟨rfl, rfl⟩
          go_wp2_with fail
          go_roundw
          case rel => exact ⟨k + 1, _, E', by go_num, by omega, by omega, M9.out, M92.out, HAF.out, E9.out⟩
          case measure => simp [intOf]; omega
      · have hki : (k : Int) < n := by omega
        have hki2 : ¬ (k : Int) < 60 := by omega
        have HK60 : Hid (k = min n 60) := by show k = min n 60; omega
        have hmin60 : min (n : Int) 60 = (k : Int) := by have := HK60.out; omega
        go_wp2_with fail
        clear hmin60 hki
        go_loopw [11] (fun i wx => ∃ (q : Nat) (iv : Int) (D2 : DataW Unit) (E2 : List Ent), i = .int .i64 iv ∧ iv = (q : Int) - 1 ∧ q ≤ k ∧ MarksAt wx p b 0 0 D ∧ MarksAt wx p2 b2 0 0 D2 ∧ AP 60 D2 E2 (mxF (((xs.take k).drop q).map apj)) ∧ Ext nob w wx) (fun i _ => (intOf i + 1).toNat)
        case atStart =>
          refine ⟨k, _, D0, [], rfl, by omega, Nat.le_refl _, HM.out, HM2.out, ?_, HE.out⟩
          rw [List.drop_eq_nil_of_le (by rw [List.length_take]; omega)]
          exact ap0 60
        case round =>
          obtain ⟨q, iv, D2, E2, rfl, hiv, hq, hn1, hn2, hA2, hx2⟩ := hrel
          have N1 := Lib.hid hn1
          have N2 := Lib.hid hn2
          have A2 := Lib.hid hA2
          have X2 := Lib.hid hx2
          clear hn1 hn2 hA2 hx2
          by_cases hq0 : q = 0
          · have hiv1 : iv = -1 := by omega
            have hdr : (xs.take k).drop q = xs.take k := by rw [hq0]; rfl
            have hBB : marksB 0 0 D2 = marksB 0 0 D := by
              have h2 := A2.out
              rw [hdr] at h2
              rw [h2.enc.bytes, HA.out.enc.bytes, AP.unique h2 HA.out (fun _ _ => rfl)]
            have HBB := Lib.hid hBB
            have hs1 : Hid (Maps.size D ≤ 64) := by show Maps.size D ≤ 64; rw [HA.out.enc.size]; have := HA.out.len; omega
            have hs2 : Hid (Maps.size D2 ≤ 64) := by show Maps.size D2 ≤ 64; rw [A2.out.enc.size]; have := A2.out.len; omega
            subst hiv1
            clear hdr hBB hiv hq0 hq
            go_wp2_with fail
            refine (mbytesD_ok p b 0 0 D _ N1.out hs1.out (by omega) (by omega) HA.out.enc.ver).mono ?_
            rintro e w3 ⟨ao1, n1, c1, rfl, b3, e3, -⟩
            have B3 := Lib.hid b3
            have E3 := Lib.hid e3
            clear b3 e3
            go_wp2_with fail
            refine (mbytesD_ok p2 b2 0 0 D2 _ (N2.out.ext E3.out (fun h => h) (fun h => h)) hs2.out (by omega) (by omega) A2.out.enc.ver).mono ?_
            rintro e w4 ⟨ao2, n2, c2, rfl, b4, e4, -⟩
            rw [HBB.out] at b4
            have B3' : Hid (Bytes w4 ao1 n1 (marksB 0 0 D)) := B3.out.ext e4 (fun _ _ h => h)
            have B4 := Lib.hid b4
            have E4 : Hid (Ext nob w w4) := (X2.out.trans' E3.out).trans' e4
            obtain rfl : n2 = n1 := by rw [← B4.out.1, ← B3'.out.1]
            clear b4 e4 B3 E3
            go_wp2_with fail
            refine (eqb_same10 ao1 ao2 n2 _ _ _ _ B3'.out B4.out).mono ?_
            rintro e w5 ⟨rfl, rfl⟩
            go_wp2_with fail
            refine (works10_ok _ (HG.out.ext E4.out (fun h => h) (fun h => h))).mono ?_
            rintro e w6 ⟨rfl, e6⟩
            have E6 := Lib.hid e6
            clear e6
            go_wp2_with fail
            go_ret
            exact ⟨rfl, E4.out.trans' E6.out⟩
          · obtain ⟨i, rfl⟩ : ∃ i, q = i + 1 := ⟨q - 1, by omega⟩
            obtain rfl : iv = (i : Int) := by omega
            have hil : (i : Int) < n := by omega
            obtain ⟨r, hr⟩ : ∃ r, xs[i]? = some r := ⟨xs[i]'(by omega), List.getElem?_eq_getElem _⟩
            obtain ⟨x1, x2⟩ := HX.out.ext X2.out (fun _ _ h => h)
            have hne : xs.flatMap pairC ≠ [] := fun h => by have := flat_len pairC 2 (fun _ => rfl) xs; rw [h] at this; simp at this; omega
            obtain ⟨g, o, rfl⟩ := x2.addr hne
            obtain ⟨c0, c1⟩ := pair_cells x2 i r hr
            have hg : g < wr.heap.size := World.block_lt_of_cell? wr _ c0
            obtain ⟨j0, hj0⟩ : ∃ j : Nat, r.1 % ((60 : Nat) : Int) = (j : Int) := ⟨(r.1 % 60).toNat, by omega⟩
            obtain ⟨j1, hj1⟩ : ∃ j : Nat, r.2 % ((99 : Nat) : Int) = (j : Int) := ⟨(r.2 % 99).toNat, by omega⟩
            have hj0l : j0 < 60 := by omega
            have hj1l : j1 < 99 := by omega
            have hcv : IntKind.u8.wrap (j0 : Int) = (j0 : Int) := u8_small j0 (by omega)
            have hw1 : IntKind.i64.wrap (1 + (j1 : Int)) = 1 + (j1 : Int) := by rw [IntWalk.i64_in _ (by omega)]
            have HAP : Hid (apj r = (j0, 1 + j1)) := by show apj r = _; unfold apj; rw [show (r.1 % 60).toNat = j0 by omega, show (r.2 % 99).toNat = j1 by omega]
            have HTK : Hid (((xs.take k).drop i).map apj = (j0, 1 + j1) :: ((xs.take k).drop (i + 1)).map apj) := by
              show _ = _
              have hik : (xs.take k)[i]? = some r := by rw [List.getElem?_take, if_pos (by omega)]; exact hr
              obtain ⟨hl, he⟩ := List.getElem?_eq_some_iff.1 hik
              rw [← HAP.out, List.drop_eq_getElem_cons hl, he]
              rfl
            have HIK : Hid (i < k) := by show i < k; omega
            clear hne x1 x2 hr hiv hq hq0
            go_wp2_with fail
            refine (bring_nat _ 60 _ rfl (by omega) (by omega) j0 hj0 _).mono ?_
            rintro e w3 ⟨rfl, rfl⟩
            go_wp2_with fail
            refine (name_nat j0 (by omega) _).mono ?_
            rintro e w4 ⟨rfl, e4⟩
            have E4 := Lib.hid e4
            clear e4
            have hi60 : (Tryd.prog.info? 60).map (·.size) = some ((nmJ j0).map byt).toArray.size := by kernel_rfl
            have hone60 : ((nmJ j0).map byt).toArray.all (·.oneCell') = true := all_oneCell_toArray (fun u hu => oneCell_byt _ u hu)
            go_upto_region 15 with (first
              | (refine wpList_store_new rfl 60 (.tmp 12) (.tmp 82) rfl w4.heap.size ((nmJ j0).map byt).toArray rfl rfl 60 _ (blk_new w4 _) hi60 rfl hone60 ?_; intro w5 k5 e5)
              | fail)
            simp only [Act.put, List.setIfInBounds_toArray, List.set_cons_zero, List.set_cons_succ]
            have E5 : Hid (Ext nob wr w5) := (E4.out.alloc _).trans e5 (fun i hi h => absurd hi (by have := E4.out.size; rw [h]; omega))
            obtain ⟨nb, hnb⟩ : ∃ nb, nb = w4.heap.size := ⟨_, rfl⟩
            rw [← hnb] at k5 ⊢
            have K5 := Lib.hid k5
            have NB : Hid (wr.heap.size ≤ nb) := by rw [hnb]; exact E4.out.size
            obtain ⟨nm, hnm⟩ : ∃ nm, nm = nmJ j0 := ⟨_, rfl⟩
            have HNM := Lib.hid hnm
            have hnl : nm.length = 32 := by rw [hnm]; rfl
            rw [← hnm] at K5 hi60
            have d1 := E5.out.cell c1 (fun h => h)
            have hg5 : g < w5.heap.size := Nat.lt_of_lt_of_le hg E5.out.size
            clear e5 k5 hnb hnm E4 hone60 c0 c1 hg
            obtain ⟨v, hv⟩ : ∃ v, v = 1 + j1 := ⟨_, rfl⟩
            have HV : Hid (0 < v ∧ v ≤ 1000) := ⟨by omega, by omega⟩
            rw [← hv] at HTK
            obtain ⟨-, E2', HA', -⟩ := A2.out.note (by omega) hj0l HV.out.1 HV.out.2
            rw [← HNM.out] at HA'
            have HAF : Hid (AP 60 (noteD D2 nm v (envB v)) E2' (mxF (((xs.take k).drop i).map apj))) := by
              have h1 : (fun a => if a = j0 then max v (mxF (((xs.take k).drop (i + 1)).map apj) a) else mxF (((xs.take k).drop (i + 1)).map apj) a) = mxF (((xs.take k).drop i).map apj) := by
                funext a
                rw [HTK.out]
                exact mxF_cons _ (j0, v) a
              rw [← h1]
              exact HA'
            have HS2 : Hid (Maps.size D2 ≤ 64) := by show Maps.size D2 ≤ 64; rw [A2.out.enc.size]; have := A2.out.len; omega
            have hvi : 1 + (j1 : Int) = (v : Int) := by omega
            have HVI := Lib.hid hvi
            have MC : Hid (MarksAt w5 p b 0 0 D) := N1.out.ext E5.out (fun h => h) (fun h => h)
            have MC2 : Hid (MarksAt w5 p2 b2 0 0 D2) := N2.out.ext E5.out (fun h => h) (fun h => h)
            have HEW : Hid (Ext nob w w5) := X2.out.trans' E5.out
            have HSV : Hid (∀ w', Ext nob w5 w' → (fun w' => w'.rangeAt nb 0 (nm.map byt) ∧ w'.cell? ⟨g, o + i * 2 + 1, none⟩ = some (.int .i64 r.2)) w') := fun w' e => ⟨fun j v hj => cell_of' (e.blk K5.out (fun h => h)) (by rw [Nat.zero_add]; simpa using hj), e.cell d1 (fun h => h)⟩
            have hi60' : (Tryd.prog.info? 60).map (·.size) = some (nm.map byt).length := by rw [List.length_map, hnl]; kernel_rfl
            clear HA' hv hvi d1
            refine wp_region_held_drew (S := (fun w' => w'.rangeAt nb 0 (nm.map byt) ∧ w'.cell? ⟨g, o + i * 2 + 1, none⟩ = some (.int .i64 r.2))) (by kernel_rfl) (HSV.out _ (Ext.refl _ w5).drew) (fun hHeld => ?_)
            refine wpAnyH_take (i := 1) (v := .agg (nm.map byt).toArray) rfl (by kernel_rfl) (by kernel_rfl) (by kernel_rfl) (fun _ _ _ h => h) (yieldsIf_load_mid (by rfl) 60 (.tmp 12) rfl nb 0 rfl (nm.map byt) _ (fun w hSw => hSw.1) hu60 rfl hi60') (by assumption) ?_
            try simp only [Act.put, List.setIfInBounds_toArray, List.set_cons_zero, List.set_cons_succ]
            refine wpAnyH_take (i := 0) (v := ?_) rfl (by kernel_rfl) (by kernel_rfl) (by kernel_rfl) (fun _ _ _ h => h) (Or.inl ⟨by rfl, ?_⟩) (by assumption) ?_
            rotate_left
            · intro w hSw; (try dsimp only at hSw); go_simp; try with_reducible rfl
            try simp only [Act.put, List.setIfInBounds_toArray, List.set_cons_zero, List.set_cons_succ]
            refine wpAnyH_take (i := 2) (v := ?_) rfl (by kernel_rfl) (by kernel_rfl) (by kernel_rfl) (fun _ _ _ h => h) (Or.inl ⟨by rfl, ?_⟩) (by assumption) ?_
            rotate_left
            · intro w hSw; (try dsimp only at hSw); go_simp; try with_reducible rfl
            try simp only [Act.put, List.setIfInBounds_toArray, List.set_cons_zero, List.set_cons_succ]
            refine wpAnyH_take (i := 3) (v := ?_) rfl (by kernel_rfl) (by kernel_rfl) (by kernel_rfl) (fun _ _ _ h => h) (Or.inl ⟨by rfl, ?_⟩) (by assumption) ?_
            rotate_left
            · intro w hSw; (try dsimp only at hSw); go_simp; try with_reducible rfl
            try simp only [Act.put, List.setIfInBounds_toArray, List.set_cons_zero, List.set_cons_succ]
            refine wpAnyH_take (i := 4) (v := ?_) rfl (by kernel_rfl) (by kernel_rfl) (by kernel_rfl) (fun _ _ _ h => h) (Or.inl ⟨by rfl, ?_⟩) (by assumption) ?_
            rotate_left
            · intro w hSw; (try dsimp only at hSw); go_simp; try with_reducible rfl
            try simp only [Act.put, List.setIfInBounds_toArray, List.set_cons_zero, List.set_cons_succ]
            refine wpAnyH_take (i := 5) (v := ?_) rfl (by kernel_rfl) (by kernel_rfl) (by kernel_rfl) (fun _ _ _ h => h) (Or.inl ⟨by rfl, ?_⟩) (by assumption) ?_
            rotate_left
            · intro w hSw; (try dsimp only at hSw); go_simp; try with_reducible rfl
            try simp only [Act.put, List.setIfInBounds_toArray, List.set_cons_zero, List.set_cons_succ]
            refine wpAnyH_take (i := 6) (v := ?_) rfl (by kernel_rfl) (by kernel_rfl) (by kernel_rfl) (fun _ _ _ h => h) (Or.inl ⟨by rfl, ?_⟩) (by assumption) ?_
            rotate_left
            · intro w hSw; (try dsimp only at hSw); go_simp; try with_reducible rfl
            try simp only [Act.put, List.setIfInBounds_toArray, List.set_cons_zero, List.set_cons_succ]
            refine wpAnyH_take (i := 9) (v := ?_) rfl (by kernel_rfl) (by kernel_rfl) (by kernel_rfl) (fun _ _ _ h => h) (Or.inl ⟨by rfl, ?_⟩) (by assumption) ?_
            rotate_left
            · intro w hSw; (try dsimp only at hSw); go_simp; try with_reducible rfl
            try simp only [Act.put, List.setIfInBounds_toArray, List.set_cons_zero, List.set_cons_succ]
            refine wpAnyH_take (i := 10) (v := ?_) rfl (by kernel_rfl) (by kernel_rfl) (by kernel_rfl) (fun _ _ _ h => h) (Or.inl ⟨by rfl, ?_⟩) (by assumption) ?_
            rotate_left
            · intro w hSw; (try dsimp only at hSw); go_simp; try with_reducible rfl
            try simp only [Act.put, List.setIfInBounds_toArray, List.set_cons_zero, List.set_cons_succ]
            refine wpAnyH_take (i := 11) (v := ?_) rfl (by kernel_rfl) (by kernel_rfl) (by kernel_rfl) (fun _ _ _ h => h) (Or.inl ⟨by rfl, ?_⟩) (by assumption) ?_
            rotate_left
            · intro w hSw; (try dsimp only at hSw); go_simp; try with_reducible rfl
            try simp only [Act.put, List.setIfInBounds_toArray, List.set_cons_zero, List.set_cons_succ]
            refine wpAnyH_take (i := 12) (v := ?_) rfl (by kernel_rfl) (by kernel_rfl) (by kernel_rfl) (fun _ _ _ h => h) (Or.inl ⟨by rfl, ?_⟩) (by assumption) ?_
            rotate_left
            · intro w hSw; (try dsimp only at hSw); go_simp; try with_reducible rfl
            try simp only [Act.put, List.setIfInBounds_toArray, List.set_cons_zero, List.set_cons_succ]
            refine wpAnyH_take (i := 13) (v := ?_) rfl (by kernel_rfl) (by kernel_rfl) (by kernel_rfl) (fun _ _ _ h => h) (Or.inl ⟨by rfl, ?_⟩) (by assumption) ?_
            rotate_left
            · intro w hSw; (try dsimp only at hSw); go_simp; try with_reducible rfl
            try simp only [Act.put, List.setIfInBounds_toArray, List.set_cons_zero, List.set_cons_succ]
            refine wpAnyH_ready (rs := [7]) (by kernel_rfl) (by simp) ?_
            refine AllReadyH.cons rfl (fun K hK => ?_) AllReadyH.nil
            go_simp
            go_at_call 14
            refine (bring_nat _ 99 _ rfl (by omega) (by omega) j1 hj1 _).mono ?_
            rintro e w6 ⟨rfl, rfl⟩
            go_wp2_with fail
            refine hK.out _ _ (HSV.out _ (Ext.refl nob w5).drew) (fun hHeld => ?_)
            clear hK K
            try simp only [Act.put, List.setIfInBounds_toArray, List.set_cons_zero, List.set_cons_succ]
            refine wpAnyH_take (i := 8) (v := ?_) rfl (by kernel_rfl) (by kernel_rfl) (by kernel_rfl) (fun _ _ _ h => h) (Or.inl ⟨by rfl, ?_⟩) (by assumption) ?_
            rotate_left
            · intro w hSw; (try dsimp only at hSw); go_simp; try with_reducible rfl
            try simp only [Act.put, List.setIfInBounds_toArray, List.set_cons_zero, List.set_cons_succ]
            refine wpAnyH_ready (rs := [14]) (by kernel_rfl) (by simp) ?_
            refine AllReadyH.cons rfl (fun K hK => ?_) AllReadyH.nil
            go_simp
            go_at_call 14
            refine (bring_nat _ 99 _ rfl (by omega) (by omega) j1 hj1 _).mono ?_
            rintro e w6 ⟨rfl, rfl⟩
            go_wp2_with fail
            refine hK.out _ _ (HSV.out _ (Ext.refl nob w5).drew) (fun hHeld => ?_)
            clear hK K
            try simp only [Act.put, List.setIfInBounds_toArray, List.set_cons_zero, List.set_cons_succ]
            refine wpAnyH_take (i := 15) (v := ?_) rfl (by kernel_rfl) (by kernel_rfl) (by kernel_rfl) (fun _ _ _ h => h) (Or.inl ⟨by rfl, ?_⟩) (by assumption) ?_
            rotate_left
            · intro w hSw; (try dsimp only at hSw); go_simp; try with_reducible rfl
            try simp only [Act.put, List.setIfInBounds_toArray, List.set_cons_zero, List.set_cons_succ]
            rw [HVI.out]
            refine wpAnyH_ready (rs := [16]) (by kernel_rfl) (by simp) ?_
            refine AllReadyH.cons rfl (fun K hK => ?_) AllReadyH.nil
            go_simp
            go_at_call 27
            refine (env_any _ _).mono ?_
            rintro e w8 ⟨ge, rfl, b8, e8, -⟩
            have E8 : Hid (Ext nob w5 w8) := (Ext.refl nob w5).drew.trans' e8
            have B8 := Lib.hid b8
            clear e8 b8
            go_wp2_with fail
            refine hK.out _ _ (HSV.out _ E8.out) (fun hHeld => ?_)
            clear hK K
            try simp only [Act.put, List.setIfInBounds_toArray, List.set_cons_zero, List.set_cons_succ]
            refine wpAnyH_ready (rs := [17]) (by kernel_rfl) (by simp) ?_
            refine AllReadyH.cons rfl (fun K hK => ?_) AllReadyH.nil
            go_simp
            go_at_call 31
            refine (mnote_ok p2 b2 0 0 D2 nm hnl v _ 3 3 (envB v) _ (MC2.out.ext E8.out (fun h => h) (fun h => h)) HS2.out B8.out (by simp [big]) (HG.out.ext (HEW.out.trans' E8.out) (fun h => h) (fun h => h))).mono ?_
            have HNP : Hid (nb ≠ b2 ∧ g ≠ b2) := by
              have h1 := N2.out.2.1.lt
              have h2 := NB.out
              have h3 := HP2.out.2.1
              have h4 := HX.out.2.lt (fun h => by have h9 := flat_len pairC 2 (fun _ => rfl) xs; rw [h] at h9; simp at h9; have := HIK.out; omega) g ⟨_, rfl, rfl⟩
              exact ⟨by omega, by omega⟩
            rintro e w9 ⟨rfl, m9, x9⟩
            have d8 := (HSV.out _ E8.out).2
            have KN8 := Lib.hid (E8.out.blk K5.out (fun h => h))
            have M9 := Lib.hid m9
            have M91 : Hid (MarksAt w9 p b 0 0 D) := (MC.out.ext E8.out (fun h => h) (fun h => h)).ext x9 (fun h => HP2.out.2.2.2.2.2 h) (fun h => HP2.out.2.2.2.1 h)
            have E9 : Hid (Ext nob w w9) := (HEW.out.trans' E8.out).trans x9 (fun i hi h => by have h1 := HP2.out.2.1; have h2 : i = b2 := h; omega)
            have S9 : Hid ((fun w' => w'.rangeAt nb 0 (nm.map byt) ∧ w'.cell? ⟨g, o + i * 2 + 1, none⟩ = some (.int .i64 r.2)) w9) := ⟨fun j v hj => cell_of' (x9.blk KN8.out (fun h => HNP.out.1 h)) (by rw [Nat.zero_add]; simpa using hj), x9.cell d8 (fun h => HNP.out.2 h)⟩
            clear m9 x9 d8
            go_wp2_with fail
            refine hK.out _ _ (S9.out) (fun hHeld => ?_)
            clear hK K
            try simp only [Act.put, List.setIfInBounds_toArray, List.set_cons_zero, List.set_cons_succ]
            try simp only [List.getElem_toArray, List.getElem_cons_succ, List.getElem_cons_zero, Act.put, List.setIfInBounds_toArray, List.set_cons_zero, List.set_cons_succ]
            refine wpAnyH_done (by kernel_rfl) ?_ _
            go_wp2_with fail
            go_roundw
            case rel => exact ⟨i, _, _, E2', rfl, by omega, by have := HIK.out; omega, M91.out, M9.out, HAF.out, E9.out⟩
            case measure => simp [intOf] <;> omega
    · have hki : ¬ (k : Int) < n := by omega
      have HK60 : Hid (k = min n 60) := by show k = min n 60; omega
      have hmin60 : min (n : Int) 60 = (k : Int) := by have := HK60.out; omega
      go_wp2_with fail
      clear hmin60 hki
      go_loopw [11] (fun i wx => ∃ (q : Nat) (iv : Int) (D2 : DataW Unit) (E2 : List Ent), i = .int .i64 iv ∧ iv = (q : Int) - 1 ∧ q ≤ k ∧ MarksAt wx p b 0 0 D ∧ MarksAt wx p2 b2 0 0 D2 ∧ AP 60 D2 E2 (mxF (((xs.take k).drop q).map apj)) ∧ Ext nob w wx) (fun i _ => (intOf i + 1).toNat)
      case atStart =>
        refine ⟨k, _, D0, [], rfl, by omega, Nat.le_refl _, HM.out, HM2.out, ?_, HE.out⟩
        rw [List.drop_eq_nil_of_le (by rw [List.length_take]; omega)]
        exact ap0 60
      case round =>
        obtain ⟨q, iv, D2, E2, rfl, hiv, hq, hn1, hn2, hA2, hx2⟩ := hrel
        have N1 := Lib.hid hn1
        have N2 := Lib.hid hn2
        have A2 := Lib.hid hA2
        have X2 := Lib.hid hx2
        clear hn1 hn2 hA2 hx2
        by_cases hq0 : q = 0
        · have hiv1 : iv = -1 := by omega
          have hdr : (xs.take k).drop q = xs.take k := by rw [hq0]; rfl
          have hBB : marksB 0 0 D2 = marksB 0 0 D := by
            have h2 := A2.out
            rw [hdr] at h2
            rw [h2.enc.bytes, HA.out.enc.bytes, AP.unique h2 HA.out (fun _ _ => rfl)]
          have HBB := Lib.hid hBB
          have hs1 : Hid (Maps.size D ≤ 64) := by show Maps.size D ≤ 64; rw [HA.out.enc.size]; have := HA.out.len; omega
          have hs2 : Hid (Maps.size D2 ≤ 64) := by show Maps.size D2 ≤ 64; rw [A2.out.enc.size]; have := A2.out.len; omega
          subst hiv1
          clear hdr hBB hiv hq0 hq
          go_wp2_with fail
          refine (mbytesD_ok p b 0 0 D _ N1.out hs1.out (by omega) (by omega) HA.out.enc.ver).mono ?_
          rintro e w3 ⟨ao1, n1, c1, rfl, b3, e3, -⟩
          have B3 := Lib.hid b3
          have E3 := Lib.hid e3
          clear b3 e3
          go_wp2_with fail
          refine (mbytesD_ok p2 b2 0 0 D2 _ (N2.out.ext E3.out (fun h => h) (fun h => h)) hs2.out (by omega) (by omega) A2.out.enc.ver).mono ?_
          rintro e w4 ⟨ao2, n2, c2, rfl, b4, e4, -⟩
          rw [HBB.out] at b4
          have B3' : Hid (Bytes w4 ao1 n1 (marksB 0 0 D)) := B3.out.ext e4 (fun _ _ h => h)
          have B4 := Lib.hid b4
          have E4 : Hid (Ext nob w w4) := (X2.out.trans' E3.out).trans' e4
          obtain rfl : n2 = n1 := by rw [← B4.out.1, ← B3'.out.1]
          clear b4 e4 B3 E3
          go_wp2_with fail
          refine (eqb_same10 ao1 ao2 n2 _ _ _ _ B3'.out B4.out).mono ?_
          rintro e w5 ⟨rfl, rfl⟩
          go_wp2_with fail
          refine (works10_ok _ (HG.out.ext E4.out (fun h => h) (fun h => h))).mono ?_
          rintro e w6 ⟨rfl, e6⟩
          have E6 := Lib.hid e6
          clear e6
          go_wp2_with fail
          go_ret
          exact ⟨rfl, E4.out.trans' E6.out⟩
        · obtain ⟨i, rfl⟩ : ∃ i, q = i + 1 := ⟨q - 1, by omega⟩
          obtain rfl : iv = (i : Int) := by omega
          have hil : (i : Int) < n := by omega
          obtain ⟨r, hr⟩ : ∃ r, xs[i]? = some r := ⟨xs[i]'(by omega), List.getElem?_eq_getElem _⟩
          obtain ⟨x1, x2⟩ := HX.out.ext X2.out (fun _ _ h => h)
          have hne : xs.flatMap pairC ≠ [] := fun h => by have := flat_len pairC 2 (fun _ => rfl) xs; rw [h] at this; simp at this; omega
          obtain ⟨g, o, rfl⟩ := x2.addr hne
          obtain ⟨c0, c1⟩ := pair_cells x2 i r hr
          have hg : g < wr.heap.size := World.block_lt_of_cell? wr _ c0
          obtain ⟨j0, hj0⟩ : ∃ j : Nat, r.1 % ((60 : Nat) : Int) = (j : Int) := ⟨(r.1 % 60).toNat, by omega⟩
          obtain ⟨j1, hj1⟩ : ∃ j : Nat, r.2 % ((99 : Nat) : Int) = (j : Int) := ⟨(r.2 % 99).toNat, by omega⟩
          have hj0l : j0 < 60 := by omega
          have hj1l : j1 < 99 := by omega
          have hcv : IntKind.u8.wrap (j0 : Int) = (j0 : Int) := u8_small j0 (by omega)
          have hw1 : IntKind.i64.wrap (1 + (j1 : Int)) = 1 + (j1 : Int) := by rw [IntWalk.i64_in _ (by omega)]
          have HAP : Hid (apj r = (j0, 1 + j1)) := by show apj r = _; unfold apj; rw [show (r.1 % 60).toNat = j0 by omega, show (r.2 % 99).toNat = j1 by omega]
          have HTK : Hid (((xs.take k).drop i).map apj = (j0, 1 + j1) :: ((xs.take k).drop (i + 1)).map apj) := by
            show _ = _
            have hik : (xs.take k)[i]? = some r := by rw [List.getElem?_take, if_pos (by omega)]; exact hr
            obtain ⟨hl, he⟩ := List.getElem?_eq_some_iff.1 hik
            rw [← HAP.out, List.drop_eq_getElem_cons hl, he]
            rfl
          have HIK : Hid (i < k) := by show i < k; omega
          clear hne x1 x2 hr hiv hq hq0
          go_wp2_with fail
          refine (bring_nat _ 60 _ rfl (by omega) (by omega) j0 hj0 _).mono ?_
          rintro e w3 ⟨rfl, rfl⟩
          go_wp2_with fail
          refine (name_nat j0 (by omega) _).mono ?_
          rintro e w4 ⟨rfl, e4⟩
          have E4 := Lib.hid e4
          clear e4
          have hi60 : (Tryd.prog.info? 60).map (·.size) = some ((nmJ j0).map byt).toArray.size := by kernel_rfl
          have hone60 : ((nmJ j0).map byt).toArray.all (·.oneCell') = true := all_oneCell_toArray (fun u hu => oneCell_byt _ u hu)
          go_upto_region 15 with (first
            | (refine wpList_store_new rfl 60 (.tmp 12) (.tmp 82) rfl w4.heap.size ((nmJ j0).map byt).toArray rfl rfl 60 _ (blk_new w4 _) hi60 rfl hone60 ?_; intro w5 k5 e5)
            | fail)
          simp only [Act.put, List.setIfInBounds_toArray, List.set_cons_zero, List.set_cons_succ]
          have E5 : Hid (Ext nob wr w5) := (E4.out.alloc _).trans e5 (fun i hi h => absurd hi (by have := E4.out.size; rw [h]; omega))
          obtain ⟨nb, hnb⟩ : ∃ nb, nb = w4.heap.size := ⟨_, rfl⟩
          rw [← hnb] at k5 ⊢
          have K5 := Lib.hid k5
          have NB : Hid (wr.heap.size ≤ nb) := by rw [hnb]; exact E4.out.size
          obtain ⟨nm, hnm⟩ : ∃ nm, nm = nmJ j0 := ⟨_, rfl⟩
          have HNM := Lib.hid hnm
          have hnl : nm.length = 32 := by rw [hnm]; rfl
          rw [← hnm] at K5 hi60
          have d1 := E5.out.cell c1 (fun h => h)
          have hg5 : g < w5.heap.size := Nat.lt_of_lt_of_le hg E5.out.size
          clear e5 k5 hnb hnm E4 hone60 c0 c1 hg
          obtain ⟨v, hv⟩ : ∃ v, v = 1 + j1 := ⟨_, rfl⟩
          have HV : Hid (0 < v ∧ v ≤ 1000) := ⟨by omega, by omega⟩
          rw [← hv] at HTK
          obtain ⟨-, E2', HA', -⟩ := A2.out.note (by omega) hj0l HV.out.1 HV.out.2
          rw [← HNM.out] at HA'
          have HAF : Hid (AP 60 (noteD D2 nm v (envB v)) E2' (mxF (((xs.take k).drop i).map apj))) := by
            have h1 : (fun a => if a = j0 then max v (mxF (((xs.take k).drop (i + 1)).map apj) a) else mxF (((xs.take k).drop (i + 1)).map apj) a) = mxF (((xs.take k).drop i).map apj) := by
              funext a
              rw [HTK.out]
              exact mxF_cons _ (j0, v) a
            rw [← h1]
            exact HA'
          have HS2 : Hid (Maps.size D2 ≤ 64) := by show Maps.size D2 ≤ 64; rw [A2.out.enc.size]; have := A2.out.len; omega
          have hvi : 1 + (j1 : Int) = (v : Int) := by omega
          have HVI := Lib.hid hvi
          have MC : Hid (MarksAt w5 p b 0 0 D) := N1.out.ext E5.out (fun h => h) (fun h => h)
          have MC2 : Hid (MarksAt w5 p2 b2 0 0 D2) := N2.out.ext E5.out (fun h => h) (fun h => h)
          have HEW : Hid (Ext nob w w5) := X2.out.trans' E5.out
          have HSV : Hid (∀ w', Ext nob w5 w' → (fun w' => w'.rangeAt nb 0 (nm.map byt) ∧ w'.cell? ⟨g, o + i * 2 + 1, none⟩ = some (.int .i64 r.2)) w') := fun w' e => ⟨fun j v hj => cell_of' (e.blk K5.out (fun h => h)) (by rw [Nat.zero_add]; simpa using hj), e.cell d1 (fun h => h)⟩
          have hi60' : (Tryd.prog.info? 60).map (·.size) = some (nm.map byt).length := by rw [List.length_map, hnl]; kernel_rfl
          clear HA' hv hvi d1
          refine wp_region_held_drew (S := (fun w' => w'.rangeAt nb 0 (nm.map byt) ∧ w'.cell? ⟨g, o + i * 2 + 1, none⟩ = some (.int .i64 r.2))) (by kernel_rfl) (HSV.out _ (Ext.refl _ w5).drew) (fun hHeld => ?_)
          refine wpAnyH_take (i := 1) (v := .agg (nm.map byt).toArray) rfl (by kernel_rfl) (by kernel_rfl) (by kernel_rfl) (fun _ _ _ h => h) (yieldsIf_load_mid (by rfl) 60 (.tmp 12) rfl nb 0 rfl (nm.map byt) _ (fun w hSw => hSw.1) hu60 rfl hi60') (by assumption) ?_
          try simp only [Act.put, List.setIfInBounds_toArray, List.set_cons_zero, List.set_cons_succ]
          refine wpAnyH_take (i := 0) (v := ?_) rfl (by kernel_rfl) (by kernel_rfl) (by kernel_rfl) (fun _ _ _ h => h) (Or.inl ⟨by rfl, ?_⟩) (by assumption) ?_
          rotate_left
          · intro w hSw; (try dsimp only at hSw); go_simp; try with_reducible rfl
          try simp only [Act.put, List.setIfInBounds_toArray, List.set_cons_zero, List.set_cons_succ]
          refine wpAnyH_take (i := 2) (v := ?_) rfl (by kernel_rfl) (by kernel_rfl) (by kernel_rfl) (fun _ _ _ h => h) (Or.inl ⟨by rfl, ?_⟩) (by assumption) ?_
          rotate_left
          · intro w hSw; (try dsimp only at hSw); go_simp; try with_reducible rfl
          try simp only [Act.put, List.setIfInBounds_toArray, List.set_cons_zero, List.set_cons_succ]
          refine wpAnyH_take (i := 3) (v := ?_) rfl (by kernel_rfl) (by kernel_rfl) (by kernel_rfl) (fun _ _ _ h => h) (Or.inl ⟨by rfl, ?_⟩) (by assumption) ?_
          rotate_left
          · intro w hSw; (try dsimp only at hSw); go_simp; try with_reducible rfl
          try simp only [Act.put, List.setIfInBounds_toArray, List.set_cons_zero, List.set_cons_succ]
          refine wpAnyH_take (i := 4) (v := ?_) rfl (by kernel_rfl) (by kernel_rfl) (by kernel_rfl) (fun _ _ _ h => h) (Or.inl ⟨by rfl, ?_⟩) (by assumption) ?_
          rotate_left
          · intro w hSw; (try dsimp only at hSw); go_simp; try with_reducible rfl
          try simp only [Act.put, List.setIfInBounds_toArray, List.set_cons_zero, List.set_cons_succ]
          refine wpAnyH_take (i := 5) (v := ?_) rfl (by kernel_rfl) (by kernel_rfl) (by kernel_rfl) (fun _ _ _ h => h) (Or.inl ⟨by rfl, ?_⟩) (by assumption) ?_
          rotate_left
          · intro w hSw; (try dsimp only at hSw); go_simp; try with_reducible rfl
          try simp only [Act.put, List.setIfInBounds_toArray, List.set_cons_zero, List.set_cons_succ]
          refine wpAnyH_take (i := 6) (v := ?_) rfl (by kernel_rfl) (by kernel_rfl) (by kernel_rfl) (fun _ _ _ h => h) (Or.inl ⟨by rfl, ?_⟩) (by assumption) ?_
          rotate_left
          · intro w hSw; (try dsimp only at hSw); go_simp; try with_reducible rfl
          try simp only [Act.put, List.setIfInBounds_toArray, List.set_cons_zero, List.set_cons_succ]
          refine wpAnyH_take (i := 9) (v := ?_) rfl (by kernel_rfl) (by kernel_rfl) (by kernel_rfl) (fun _ _ _ h => h) (Or.inl ⟨by rfl, ?_⟩) (by assumption) ?_
          rotate_left
          · intro w hSw; (try dsimp only at hSw); go_simp; try with_reducible rfl
          try simp only [Act.put, List.setIfInBounds_toArray, List.set_cons_zero, List.set_cons_succ]
          refine wpAnyH_take (i := 10) (v := ?_) rfl (by kernel_rfl) (by kernel_rfl) (by kernel_rfl) (fun _ _ _ h => h) (Or.inl ⟨by rfl, ?_⟩) (by assumption) ?_
          rotate_left
          · intro w hSw; (try dsimp only at hSw); go_simp; try with_reducible rfl
          try simp only [Act.put, List.setIfInBounds_toArray, List.set_cons_zero, List.set_cons_succ]
          refine wpAnyH_take (i := 11) (v := ?_) rfl (by kernel_rfl) (by kernel_rfl) (by kernel_rfl) (fun _ _ _ h => h) (Or.inl ⟨by rfl, ?_⟩) (by assumption) ?_
          rotate_left
          · intro w hSw; (try dsimp only at hSw); go_simp; try with_reducible rfl
          try simp only [Act.put, List.setIfInBounds_toArray, List.set_cons_zero, List.set_cons_succ]
          refine wpAnyH_take (i := 12) (v := ?_) rfl (by kernel_rfl) (by kernel_rfl) (by kernel_rfl) (fun _ _ _ h => h) (Or.inl ⟨by rfl, ?_⟩) (by assumption) ?_
          rotate_left
          · intro w hSw; (try dsimp only at hSw); go_simp; try with_reducible rfl
          try simp only [Act.put, List.setIfInBounds_toArray, List.set_cons_zero, List.set_cons_succ]
          refine wpAnyH_take (i := 13) (v := ?_) rfl (by kernel_rfl) (by kernel_rfl) (by kernel_rfl) (fun _ _ _ h => h) (Or.inl ⟨by rfl, ?_⟩) (by assumption) ?_
          rotate_left
          · intro w hSw; (try dsimp only at hSw); go_simp; try with_reducible rfl
          try simp only [Act.put, List.setIfInBounds_toArray, List.set_cons_zero, List.set_cons_succ]
          refine wpAnyH_ready (rs := [7]) (by kernel_rfl) (by simp) ?_
          refine AllReadyH.cons rfl (fun K hK => ?_) AllReadyH.nil
          go_simp
          go_at_call 14
          refine (bring_nat _ 99 _ rfl (by omega) (by omega) j1 hj1 _).mono ?_
          rintro e w6 ⟨rfl, rfl⟩
          go_wp2_with fail
          refine hK.out _ _ (HSV.out _ (Ext.refl nob w5).drew) (fun hHeld => ?_)
          clear hK K
          try simp only [Act.put, List.setIfInBounds_toArray, List.set_cons_zero, List.set_cons_succ]
          refine wpAnyH_take (i := 8) (v := ?_) rfl (by kernel_rfl) (by kernel_rfl) (by kernel_rfl) (fun _ _ _ h => h) (Or.inl ⟨by rfl, ?_⟩) (by assumption) ?_
          rotate_left
          · intro w hSw; (try dsimp only at hSw); go_simp; try with_reducible rfl
          try simp only [Act.put, List.setIfInBounds_toArray, List.set_cons_zero, List.set_cons_succ]
          refine wpAnyH_ready (rs := [14]) (by kernel_rfl) (by simp) ?_
          refine AllReadyH.cons rfl (fun K hK => ?_) AllReadyH.nil
          go_simp
          go_at_call 14
          refine (bring_nat _ 99 _ rfl (by omega) (by omega) j1 hj1 _).mono ?_
          rintro e w6 ⟨rfl, rfl⟩
          go_wp2_with fail
          refine hK.out _ _ (HSV.out _ (Ext.refl nob w5).drew) (fun hHeld => ?_)
          clear hK K
          try simp only [Act.put, List.setIfInBounds_toArray, List.set_cons_zero, List.set_cons_succ]
          refine wpAnyH_take (i := 15) (v := ?_) rfl (by kernel_rfl) (by kernel_rfl) (by kernel_rfl) (fun _ _ _ h => h) (Or.inl ⟨by rfl, ?_⟩) (by assumption) ?_
          rotate_left
          · intro w hSw; (try dsimp only at hSw); go_simp; try with_reducible rfl
          try simp only [Act.put, List.setIfInBounds_toArray, List.set_cons_zero, List.set_cons_succ]
          rw [HVI.out]
          refine wpAnyH_ready (rs := [16]) (by kernel_rfl) (by simp) ?_
          refine AllReadyH.cons rfl (fun K hK => ?_) AllReadyH.nil
          go_simp
          go_at_call 27
          refine (env_any _ _).mono ?_
          rintro e w8 ⟨ge, rfl, b8, e8, -⟩
          have E8 : Hid (Ext nob w5 w8) := (Ext.refl nob w5).drew.trans' e8
          have B8 := Lib.hid b8
          clear e8 b8
          go_wp2_with fail
          refine hK.out _ _ (HSV.out _ E8.out) (fun hHeld => ?_)
          clear hK K
          try simp only [Act.put, List.setIfInBounds_toArray, List.set_cons_zero, List.set_cons_succ]
          refine wpAnyH_ready (rs := [17]) (by kernel_rfl) (by simp) ?_
          refine AllReadyH.cons rfl (fun K hK => ?_) AllReadyH.nil
          go_simp
          go_at_call 31
          refine (mnote_ok p2 b2 0 0 D2 nm hnl v _ 3 3 (envB v) _ (MC2.out.ext E8.out (fun h => h) (fun h => h)) HS2.out B8.out (by simp [big]) (HG.out.ext (HEW.out.trans' E8.out) (fun h => h) (fun h => h))).mono ?_
          have HNP : Hid (nb ≠ b2 ∧ g ≠ b2) := by
            have h1 := N2.out.2.1.lt
            have h2 := NB.out
            have h3 := HP2.out.2.1
            have h4 := HX.out.2.lt (fun h => by have h9 := flat_len pairC 2 (fun _ => rfl) xs; rw [h] at h9; simp at h9; have := HIK.out; omega) g ⟨_, rfl, rfl⟩
            exact ⟨by omega, by omega⟩
          rintro e w9 ⟨rfl, m9, x9⟩
          have d8 := (HSV.out _ E8.out).2
          have KN8 := Lib.hid (E8.out.blk K5.out (fun h => h))
          have M9 := Lib.hid m9
          have M91 : Hid (MarksAt w9 p b 0 0 D) := (MC.out.ext E8.out (fun h => h) (fun h => h)).ext x9 (fun h => HP2.out.2.2.2.2.2 h) (fun h => HP2.out.2.2.2.1 h)
          have E9 : Hid (Ext nob w w9) := (HEW.out.trans' E8.out).trans x9 (fun i hi h => by have h1 := HP2.out.2.1; have h2 : i = b2 := h; omega)
          have S9 : Hid ((fun w' => w'.rangeAt nb 0 (nm.map byt) ∧ w'.cell? ⟨g, o + i * 2 + 1, none⟩ = some (.int .i64 r.2)) w9) := ⟨fun j v hj => cell_of' (x9.blk KN8.out (fun h => HNP.out.1 h)) (by rw [Nat.zero_add]; simpa using hj), x9.cell d8 (fun h => HNP.out.2 h)⟩
          clear m9 x9 d8
          go_wp2_with fail
          refine hK.out _ _ (S9.out) (fun hHeld => ?_)
          clear hK K
          try simp only [Act.put, List.setIfInBounds_toArray, List.set_cons_zero, List.set_cons_succ]
          try simp only [List.getElem_toArray, List.getElem_cons_succ, List.getElem_cons_zero, Act.put, List.setIfInBounds_toArray, List.set_cons_zero, List.set_cons_succ]
          refine wpAnyH_done (by kernel_rfl) ?_ _
          go_wp2_with fail
          go_roundw
          case rel => exact ⟨i, _, _, E2', rfl, by omega, by have := HIK.out; omega, M91.out, M9.out, HAF.out, E9.out⟩
          case measure => simp [intOf] <;> omega
end Go.Proofs.YtfgfhfmhadondaaDoor
