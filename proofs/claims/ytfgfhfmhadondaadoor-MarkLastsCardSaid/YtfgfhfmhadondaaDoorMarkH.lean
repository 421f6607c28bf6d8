/- mark: Bytes (under way). -/
import Derived.Test.YtfgfhfmhadondaaDoorMarkG
import Derived.Test.YtfgfhfmhadondaaDoorLaw0
namespace Go.Proofs.YtfgfhfmhadondaaDoor
open Go.RowKit Go.Maps Go.Shelf Go.Lib Go.Sort
set_option maxHeartbeats 400000

/-- The names' rows in the bytes. -/
def entsB (D : DataW Unit) (L : List NameS) : List UInt8 := L.flatMap fun x => x.1 ++ (countB (verD D x.1).toNat ++ digD D x.1)

theorem entsB_big {D : DataW Unit} {A0 : List UInt8} (h0 : A0.length ≤ 100) (hd : ∀ n : NameS, (digD D n.1).length = 32) {L : List NameS} (hL : L.length ≤ 64) : (A0 ++ entsB D L).length + 100 ≤ big := by
  have h1 : ∀ M : List NameS, (entsB D M).length ≤ M.length * 74 := by
    intro M
    induction M with
    | nil => simp [entsB]
    | cons x t ih =>
      have h2 : entsB D (x :: t) = (x.1 ++ (countB (verD D x.1).toNat ++ digD D x.1)) ++ entsB D t := by simp [entsB]
      have h3 := countB_len (verD D x.1).toNat
      have h4 := hd x
      have h5 := x.2
      rw [h2]
      simp only [List.length_append, List.length_cons]
      omega
  have h2 := h1 L
  unfold big
  rw [List.length_append]
  omega
theorem count_int (p : Nat) (l : List UInt8) (F : Nat → Prop) (N : Int) (n : Nat) (hN : N = (n : Int)) (hn : n ≤ 9007199254740991) (w : World) (hw : Writer w p l F) (hb : l.length + 10 ≤ big) :
    Calls Tryd.prog 55 #[.pointer (some ⟨p, 0, none⟩), .int .i64 N] w (Wrote w p (l ++ countB n) F) := by
  subst hN
  exact count_ok p l F n hn w hw hb

/-- The marks' bytes, the names given. -/
def marksL (life epoch : Nat) (D : DataW Unit) (L : List NameS) : List UInt8 := countB life ++ ([UInt8.ofNat epoch] ++ countB L.length) ++ entsB D L

theorem wsnew_ok (w5 : World) (p : Nat) (hl : p < w5.heap.size) : Calls Tryd.prog 54 #[] w5.drew fun e w6 => ∃ P, e = .returned (.pointer (some ⟨P, 0, none⟩)) ∧ WS w5 w6 P [] (fun k => k = P) p := by
  refine (write_ok w5.drew).mono ?_
  rintro e w6 ⟨rfl, g1, g2⟩
  have h2 := Ext.undrew g2
  exact ⟨w5.heap.size, rfl, g1, h2, fun j hj => by rw [hj]; exact Nat.le_refl _, fun h => by omega, Nat.lt_of_lt_of_le hl h2.size⟩

set_option linter.unusedSimpArgs false in
set_option maxRecDepth 100000 in
set_option maxHeartbeats 4000000 in
theorem mbytes_ok (p b life epoch : Nat) (D : DataW Unit) (w : World) (h : MarksAt w p b life epoch D) (hs : Maps.size D ≤ 64) (hlf : life ≤ 1048576) (hep : epoch < 256) (hver : ∀ n, 0 ≤ verD D n ∧ verD D n ≤ 9007199254740991) :
    Calls Tryd.prog 33 #[.pointer (some ⟨p, 0, none⟩)] w fun e w' => ∃ v L, e = .returned v ∧ (L.map (fun x : NameS => x.1)).Nodup ∧ (∀ n, n ∈ L.map (fun x : NameS => x.1) ↔ hasD D n = true) ∧ Own w' 5 1 v (marksL life epoch D (sortL L)).length ((marksL life epoch D (sortL L)).map byt) ∧ Ext nob w w' ∧ (∀ k, v.ownBlock = some k → w.heap.size ≤ k) := by
  obtain ⟨c0, c1, c2, -, -, -, hl⟩ := cells3 h.1
  have H := Lib.hid h
  have HS := Lib.hid hs
  have HLF := Lib.hid hlf
  have HEP := Lib.hid hep
  have HVER := Lib.hid hver
  clear h hs hlf hep hver
  go_enter Tryd.func33, Tryd.ntmps33
  go_wp2_with fail
  refine (mnone_ok p b life epoch D _ H.out).mono ?_
  rintro e w1 ⟨rfl, rfl⟩
  go_wp2_with (first
    | (at_range; refine wpList_range_own _ rfl _ 114 rfl 60 122 nameLaw Tryd.underlying114 seenElem b (Maps.size D) D rfl H.out.2.1 ?_; intro w0 hrg0 hg0 hs0)
    | fail)
  go_frame
  obtain ⟨r, hr⟩ : ∃ r, r = w.heap.size := ⟨_, rfl⟩
  rw [← hr] at hrg0 ⊢
  have HR := Lib.hid hr
  have HG0 : Hid (Ext nob w w0) := ext_of_grown hg0
  have HRG := Lib.hid hrg0
  clear hrg0 hg0 hs0 hr
  go_loopw [3] (fun v3 wr => ∃ (left : Lit → Bool) (cnt : Nat) (L : List NameS), wr.ranges Tryd.prog 60 seenElem b r (Maps.size D) D left cnt ∧ L.length + cnt ≤ Maps.size D ∧ Collected D left (L.map (·.1)) ∧ Own wr 60 32 v3 L.length (L.flatMap encN) ∧ (∀ k, v3.ownBlock = some k → w.heap.size < k) ∧ Ext nob w wr) (fun _ wr => wr.rangeLeft b r)
  case atStart => exact ⟨_, _, [], HRG.out, by simp, Collected.start D, World.ownsRow_nil _ _ _ _, (fun k h => by simp [Value.ownBlock] at h), HG0.out⟩
  case round =>
    obtain ⟨left, cnt, L, hrg, hcl, hC, hown, hfar, he⟩ := hrel
    have HRr := Lib.hid hrg
    have HC := Lib.hid hC
    have HO := Lib.hid hown
    have HF := Lib.hid hfar
    have HE := Lib.hid he
    have HCL := Lib.hid hcl
    clear hrg hC hown hfar he hcl
    go_wp2_with (first
      | (at_next; refine wpList_next_ranges _ rfl _ rfl 60 nameLaw seenElem (fun x : NameS => nameV x.1) (fun c : Int × List UInt8 => seenV c.1 c.2) (fun key kl hk => by obtain ⟨n, hn, rfl, -⟩ := keyOf_name_inv hk; exact ⟨⟨n, hn⟩, rfl⟩) (fun v y hv => by obtain ⟨x, d, -, rfl, -⟩ := seenElem_inv hv; exact ⟨(x, d), rfl⟩) b r (Maps.size D) D left cnt rfl HRr.out ?_ ?_)
      | fail)
    · intro hc0 hl0
      obtain ⟨ao, cap, hv3, hin, hcall⟩ := sort_any u3 L wr HO.out (by have h1 := HCL.out; have h2 := HS.out; omega)
      have HIN := Lib.hid hin
      have HL0 := Lib.hid hl0
      have HCALL := Lib.hid hcall
      clear hin hl0 hcall
      subst hv3
      go_wp2_with (go_at_call 90; refine HCALL.out.mono ?_; rintro e w5 ⟨rfl, s1, s2⟩)
      have S1 := Lib.hid s1
      have S2 := Lib.hid s2
      have E5 : Hid (Ext nob w w5) := HE.out.trans s2 (fun i hi h => by have h1 := HF.out i h; omega)
      have d0 := E5.out.cell c0 (fun h => h)
      have d1 := E5.out.cell c1 (fun h => h)
      have hl5 := Nat.lt_of_lt_of_le hl E5.out.size
      have hL64 : Hid (L.length ≤ 64) := by have h1 := HCL.out; have h2 := HS.out; show L.length ≤ 64; omega
      have hlb : life ≤ 9007199254740991 := by have := HLF.out; omega
      have heb := HEP.out
      have hLb : L.length ≤ 9007199254740991 := by have := hL64.out; omega
      have HLB := Lib.hid hlb
      have HEB := Lib.hid heb
      have HLLB := Lib.hid hLb
      have HZ : Hid (∀ w', Ext nob w5 w' → w'.cell? ⟨p, 0, none⟩ = some (.int .i64 (life : Int)) ∧ w'.cell? ⟨p, 1, none⟩ = some (.int .i64 (epoch : Int))) := fun w' e => ⟨e.cell d0 (fun h => h), e.cell d1 (fun h => h)⟩
      clear s1 s2 hlb heb hLb d0 d1 HCALL
      go_wp2_with fail
      go_region_held3 (fun w' => w'.cell? ⟨p, 0, none⟩ = some (.int .i64 (life : Int)) ∧ w'.cell? ⟨p, 1, none⟩ = some (.int .i64 (epoch : Int))) (first | with_reducible exact HZ.out _ Z9.out.ext | with_reducible exact HZ.out _ Z8.out.ext | with_reducible exact HZ.out _ Z7.out.ext | with_reducible exact HZ.out _ Z6.out.ext | with_reducible exact HZ.out _ (Ext.refl nob w5).drew)
        (first
          | (have _ := Z8; go_at_call 55; refine (count_ok P _ F8 L.length HLLB.out w8 Z8.out.wr hb3.out).mono ?_; intro e w9 hq; obtain ⟨rfl, F9, k4, x4⟩ := Z8.out.step' hq; have Z9 := Lib.hid k4; clear hq k4 x4)
          | (have _ := Z7; go_at_call 56; refine (num1_ok P _ F7 epoch HEB.out w7 Z7.out.wr hb2.out).mono ?_; intro e w8 hq; obtain ⟨rfl, F8, k4, x4⟩ := Z7.out.step' hq; have Z8 := Lib.hid k4; have hb3 : Hid ((([] ++ countB life) ++ [UInt8.ofNat epoch]).length + 10 ≤ big) := (by show _ ≤ _; have := countB_len life; simp only [List.length_append, List.length_cons, List.length_nil, big]; omega); clear hq k4 x4)
          | (have _ := Z6; go_at_call 55; refine (count_ok P [] _ life HLB.out w6 Z6.out.wr (by simp [big])).mono ?_; intro e w7 hq; obtain ⟨rfl, F7, k4, x4⟩ := Z6.out.step' hq; have Z7 := Lib.hid k4; have hb2 : Hid (([] ++ countB life).length + 1 ≤ big) := (by show _ ≤ _; have := countB_len life; simp only [List.length_append, List.length_nil, big]; omega); clear hq k4 x4)
          | (go_at_call 54; refine (wsnew_ok w5 p hl5).mono ?_; rintro e w6 ⟨P, rfl, g1⟩; have Z6 := Lib.hid g1; clear g1))
      obtain ⟨A0, hA0⟩ : ∃ A0 : List UInt8, A0 = countB life ++ ([UInt8.ofNat epoch] ++ countB L.length) := ⟨_, rfl⟩
      have WR : Hid (Writer w9 P A0 F9) := by
        have := Z9.out.wr
        show Writer _ _ _ _
        rw [hA0]
        simpa [List.append_assoc] using this
      have E9 : Hid (Ext nob w5 w9) := Z9.out.ext
      have F9f : Hid (∀ j, F9 j → w5.heap.size ≤ j) := Z9.out.far
      have hA0l : Hid (A0.length ≤ 100) := by show _ ≤ _; rw [hA0]; have h1 := countB_len life; have h2 := countB_len L.length; simp only [List.length_append, List.length_cons, List.length_nil]; omega
      have HA0 := Lib.hid hA0
      clear hA0 Z6 Z7 Z8 Z9 hb2 hb3 HZ
      go_wp2_with fail
      go_loopw [44] (fun i wx => ∃ (k : Nat) (F1 : Nat → Prop), i = .int .i64 (k : Int) ∧ k ≤ L.length ∧ Writer wx P (A0 ++ entsB D ((sortL L).take k)) F1 ∧ (∀ j, F1 j → w5.heap.size ≤ j) ∧ Ext nob w5 wx) (fun i _ => L.length - (intOf i).toNat)
      case atStart => exact ⟨0, F9, rfl, by omega, by simpa [entsB] using WR.out, F9f.out, E9.out⟩
      case round =>
        obtain ⟨k, F1, rfl, hk, hw, hF1, he1⟩ := hrel
        have HW := Lib.hid hw
        have HF1 := Lib.hid hF1
        have HE1 := Lib.hid he1
        clear hw hF1 he1
        by_cases hkn : k < L.length
        · have HKN := Lib.hid hkn
          have hki : (k : Int) < L.length := by omega
          obtain ⟨x, hx⟩ : ∃ x, (sortL L)[k]? = some x := ⟨(sortL L)[k]'(by rw [sortL_len]; exact hkn), List.getElem?_eq_getElem _⟩
          have hrd := S1.out.ext HE1.out (fun _ _ h => h)
          obtain ⟨g, o, rfl⟩ := hrd.addr (fun h => by have h1 := names_len (sortL L); rw [h, sortL_len] at h1; simp at h1; omega)
          have hrange : wr.rangeAt g (o + k * 32) (encN x) := fun j v hj => by
            have hjl : j < 32 := by have := (List.getElem?_eq_some_iff.1 hj).1; rw [encN_len] at this; exact this
            have h1 := hrd.cell (k * 32 + j) v ((names_at _ k x hx j hjl).trans hj)
            rwa [← Nat.add_assoc] at h1
          have hg : g < wr.heap.size := World.block_lt_of_cell? wr _ (hrange 0 _ (List.getElem?_eq_getElem (by rw [encN_len]; omega)))
          have HRA := Lib.hid hrange
          have HX := Lib.hid hx
          clear hrd hrange hx
          have hu60 := Tryd.underlying60
          have hi60 : (Tryd.prog.info? 60).map (·.size) = some (x.1.map byt).length := by rw [List.length_map, x.2]; kernel_rfl
          have hi60a : (Tryd.prog.info? 60).map (·.size) = some (x.1.map byt).toArray.size := by rw [List.size_toArray]; exact hi60
          have hone60 : (x.1.map byt).toArray.all (·.oneCell') = true := all_oneCell_toArray (fun u hu => oneCell_byt _ u hu)
          have hold60 : ∀ (cs : Array Value), cs.size = 32 → cs.size = (x.1.map byt).toArray.size := fun cs h => by rw [h]; simp [x.2]
          have HRA' : Hid (wr.rangeAt g (o + k * 32) (x.1.map byt)) := HRA.out
          have HI60 := Lib.hid hi60
          have HI60A := Lib.hid hi60a
          clear hi60 hi60a
          go_wp2_with (first
            | (refine wpList_load_mid rfl 60 (.tmp 46) rfl g (o + k * 32) rfl (x.1.map byt) _ HRA'.out hu60 rfl HI60.out ?_)
            | (refine wpList_store_new rfl 60 (.tmp 7) (.tmp 47) rfl wr.heap.size (x.1.map byt).toArray rfl rfl 60 _ (blk_new wr _) HI60A.out (hold60 _ rfl) hone60 ?_; intro wb k3 e3; have K3 := Lib.hid k3; have E3 := Lib.hid e3; clear k3 e3)
            | fail)
          have EB : Hid (Ext nob wr wb) := ((Ext.refl nob wr).alloc _).trans E3.out (fun i hi h => absurd hi (by rw [h]; exact Nat.lt_irrefl _))
          obtain ⟨nb, hnb⟩ : ∃ nb, nb = wr.heap.size := ⟨_, rfl⟩
          have KN : Hid (wb.heap[nb]? = some (.cells (x.1.map byt).toArray 60 (0, 0))) := by rw [hnb]; exact K3.out
          have HNB : Hid (wr.heap.size ≤ nb) := by rw [hnb]; exact Nat.le_refl _
          rw [← hnb]
          clear hnb K3 E3
          have EW : Hid (Ext nob w wb) := (E5.out.trans' HE1.out).trans' EB.out
          have HSV : Hid (∀ w', Ext nob wb w' → (fun w' => w'.rangeAt nb 0 (x.1.map byt) ∧ w'.cell? ⟨p, 2, none⟩ = some (.map (some b)) ∧ (Instr.lookup 114 (.map (some b)) (nameV x.1) false).run Tryd.prog w' = .ok (seenV (verD D x.1) (digD D x.1)) w') w') := fun w' e =>
            ⟨fun j v hj => cell_of' (e.blk KN.out (fun h => h)) (by rw [Nat.zero_add]; simpa using hj), (EW.out.trans' e).cell c2 (fun h => h), ((H.out.2.1.ext (EW.out.trans' e) (fun h => h)).look x.2).1⟩
          have hdl := (H.out.2.1.look x.2).2
          have hi122 : (Tryd.prog.info? 122).map (·.size) = some (Value.int .i64 (verD D x.1) :: (digD D x.1).map byt).toArray.size := by simp only [List.size_toArray, List.length_cons, List.length_map, hdl]; kernel_rfl
          have hold122 : ∀ (cs : Array Value), cs.size = 33 → cs.size = (Value.int .i64 (verD D x.1) :: (digD D x.1).map byt).toArray.size := fun cs h => by rw [h]; simp [hdl]
          have hone122 : (Value.int .i64 (verD D x.1) :: (digD D x.1).map byt).toArray.all (·.oneCell') = true := all_oneCell_toArray (fun u hu => by
            rcases List.mem_cons.1 hu with rfl | hu
            · rfl
            · exact oneCell_byt _ u hu)
          have hlw := Nat.lt_of_lt_of_le hl EW.out.size
          clear hki hg
          go_wp2_with fail
          refine wp_region_held_drew (S := (fun w' => w'.rangeAt nb 0 (x.1.map byt) ∧ w'.cell? ⟨p, 2, none⟩ = some (.map (some b)) ∧ (Instr.lookup 114 (.map (some b)) (nameV x.1) false).run Tryd.prog w' = .ok (seenV (verD D x.1) (digD D x.1)) w')) (by kernel_rfl) (HSV.out _ (Ext.refl nob wb).drew) (fun hHeld => ?_)
          refine wpAnyH_take (i := 0) (v := ?_) rfl (by kernel_rfl) (by kernel_rfl) (by kernel_rfl) (fun _ _ _ h => h) (Or.inl ⟨by rfl, ?_⟩) (by assumption) ?_
          rotate_left
          · intro w hSw; (try dsimp only at hSw); go_simp; try with_reducible rfl
          try simp only [Act.put, List.setIfInBounds_toArray, List.set_cons_zero, List.set_cons_succ]
          refine wpAnyH_take (i := 1) (v := ?_) rfl (by kernel_rfl) (by kernel_rfl) (by kernel_rfl) (fun _ _ _ h => h) (Or.inl ⟨by rfl, ?_⟩) (by assumption) ?_
          rotate_left
          · intro w hSw; (try dsimp only at hSw); go_simp; try with_reducible rfl
          try simp only [Act.put, List.setIfInBounds_toArray, List.set_cons_zero, List.set_cons_succ]
          refine wpAnyH_take (i := 2) (v := ?_) rfl (by kernel_rfl) (by kernel_rfl) (by kernel_rfl) (fun _ _ _ h => h) (Or.inl ⟨by rfl, ?_⟩) (by assumption) ?_
          rotate_left
          · intro w hSw; (try dsimp only at hSw); go_simp; try with_reducible rfl
          try simp only [Act.put, List.setIfInBounds_toArray, List.set_cons_zero, List.set_cons_succ]
          refine wpAnyH_take (i := 3) (v := ?_) rfl (by kernel_rfl) (by kernel_rfl) (by kernel_rfl) (fun _ _ _ h => h) (Or.inl ⟨by rfl, ?_⟩) (by assumption) ?_
          rotate_left
          · intro w hSw; (try dsimp only at hSw); go_simp; try with_reducible rfl
          try simp only [Act.put, List.setIfInBounds_toArray, List.set_cons_zero, List.set_cons_succ]
          refine wpAnyH_take (i := 4) (v := .agg (x.1.map byt).toArray) rfl (by kernel_rfl) (by kernel_rfl) (by kernel_rfl) (fun _ _ _ h => h) (yieldsIf_load_mid (by rfl) 60 (.tmp 7) rfl nb 0 rfl (x.1.map byt) _ (fun w hSw => hSw.1) hu60 rfl HI60.out) (by assumption) ?_
          try simp only [Act.put, List.setIfInBounds_toArray, List.set_cons_zero, List.set_cons_succ]
          refine wpAnyH_take (i := 5) (v := ?_) rfl (by kernel_rfl) (by kernel_rfl) (by kernel_rfl) (fun _ _ _ h => h) (Or.inl ⟨by rfl, ?_⟩) (by assumption) ?_
          rotate_left
          · intro w hSw; (try dsimp only at hSw); go_simp; try with_reducible rfl
          try simp only [Act.put, List.setIfInBounds_toArray, List.set_cons_zero, List.set_cons_succ]
          refine wpAnyH_ready (rs := [6]) (by kernel_rfl) (by simp) ?_
          refine AllReadyH.cons rfl (fun K hK => ?_) AllReadyH.nil
          go_simp
          refine hK.out _ _ (HSV.out _ ((Ext.refl nob wb).drew.alloc _)) (fun _ => ?_)
          clear hK K
          try simp only [Act.put, List.setIfInBounds_toArray, List.set_cons_zero, List.set_cons_succ]
          refine wpAnyH_ready (rs := [7]) (by kernel_rfl) (by simp) ?_
          refine AllReadyH.cons rfl (fun K hK => ?_) AllReadyH.nil
          rw [if_pos (by rfl)]
          refine wp_store_new 122 (.tmp 8) (.tmp 53) rfl wb.heap.size (Value.int .i64 (verD D x.1) :: (digD D x.1).map byt).toArray rfl rfl 122 _ (by first | exact blk_new _ _ | exact blk_drew' (blk_new _ _)) hi122 (hold122 _ rfl) hone122 ?_
          intro wc kf ef
          have EF : Hid (Ext nob wb wc) := (by first | exact ((Ext.refl nob wb).drew.alloc _) | exact ((Ext.refl nob wb).alloc _).drew : Ext nob wb _).trans ef (fun i hi h => absurd hi (by rw [h]; exact Nat.lt_irrefl _))
          have KF := Lib.hid kf
          clear ef kf
          refine hK.out _ _ (HSV.out _ EF.out) (fun _ => ?_)
          clear hK K
          try simp only [Act.put, List.setIfInBounds_toArray, List.set_cons_zero, List.set_cons_succ]
          refine wpAnyH_done (by kernel_rfl) ?_ _
          clear hHeld HSV hi122 hold122 hone122 hone60 hold60
          obtain ⟨tb, htb⟩ : ∃ tb, tb = wb.heap.size := ⟨_, rfl⟩
          rw [← htb] at KF
          have HTB : Hid (wr.heap.size ≤ tb) := by rw [htb]; exact EB.out.size
          simp only [← htb]
          clear htb
          obtain ⟨vm, hvm⟩ : ∃ vm : Nat, verD D x.1 = (vm : Int) := ⟨(verD D x.1).toNat, by have := (HVER.out x.1).1; omega⟩
          have HVM := Lib.hid hvm
          have hvb : Hid (vm ≤ 9007199254740991) := by have := (HVER.out x.1).2; show vm ≤ _; omega
          have t0 : wc.cell? ⟨tb, 0, none⟩ = some (.int .i64 (verD D x.1)) := cell_of' KF.out rfl
          have htl : tb < wc.heap.size := blk_lt KF.out
          have hF1l : Hid (∀ j, F1 j → j < wr.heap.size) := by obtain ⟨_, _, _, _, _, _, h⟩ := HW.out; exact h
          have hF1P : Hid (P < wr.heap.size) := by obtain ⟨_, _, _, _, h, _, _⟩ := HW.out; exact hF1l.out P h
          have hAl : Hid ((A0 ++ entsB D ((sortL L).take k)).length + 100 ≤ big) := entsB_big hA0l.out (fun n => (H.out.2.1.look_ok n.2).2) (by rw [List.length_take]; have := hL64.out; rw [sortL_len]; omega)
          have Z0 : Hid (WS w5 wc P (A0 ++ entsB D ((sortL L).take k)) F1 tb) :=
            ⟨HW.out.ext (EB.out.trans' EF.out) (fun _ _ h => h), (HE1.out.trans' EB.out).trans' EF.out, HF1.out, fun h => by have h1 := hF1l.out tb h; have h2 := HTB.out; omega, htl⟩
          have BN : Hid (Bytes wc (some ⟨nb, 0, none⟩) 32 x.1) := ⟨x.2, Rd.of_heap (EF.out.blk KN.out (fun h => h)) 0 (fun j u hj => by simpa using hj)⟩
          have BT : Hid (Bytes wc (some ⟨tb, 1, none⟩) 32 (digD D x.1)) := ⟨hdl, Rd.of_heap KF.out 1 (fun j u hj => by rw [Nat.add_comm]; simpa using hj)⟩
          clear hvm hu60
          go_wp2_with fail
          go_region_held3 (fun w' => w'.cell? ⟨tb, 0, none⟩ = some (.int .i64 (verD D x.1))) (first | assumption | go_keep)
            (first
              | (have _ := Z2; go_at_call 91; refine (raw_ok P _ F4 (some ⟨tb, 1, none⟩) 32 32 (digD D x.1) w21 Z2.out.wr BT2.out (fun j hj h => by obtain ⟨a, ha, hb⟩ := hj; cases ha; have h1 := hF1P.out; have h2 := HTB.out; have h3 : tb = j := hb; omega) hb2.out).mono ?_; intro e w22 hq; obtain ⟨rfl, F5, k4, x4⟩ := Z2.out.step' hq; have Z3 := Lib.hid k4; have u0 := x4.cell t2 Z2.out.nz; clear hq k4 x4)
              | (have _ := Z1; go_at_call 55; refine (count_int P _ F3 (verD D x.1) vm HVM.out hvb.out w20 Z1.out.wr hb1.out).mono ?_; intro e w21 hq; obtain ⟨rfl, F4, k4, x4⟩ := Z1.out.step' hq; have Z2 := Lib.hid k4; have t2 := x4.cell t1 Z1.out.nz; have BT2 : Hid (Bytes w21 (some ⟨tb, 1, none⟩) 32 (digD D x.1)) := BT1.out.ext x4 (fun j hj h => by obtain ⟨a, ha, hb⟩ := hj; cases ha; exact Z1.out.nz (by rw [show tb = j from hb]; exact h)); have hb2 : Hid (((A0 ++ entsB D ((sortL L).take k)) ++ x.1 ++ countB vm).length + 32 ≤ big) := (by show _ ≤ _; have h1 := hAl.out; have h2 := countB_len vm; have h3 := x.2; simp only [List.length_append] at *; omega); clear hq k4 x4)
              | (go_at_call 91; refine (raw_ok P _ F1 (some ⟨nb, 0, none⟩) 32 32 x.1 wc.drew Z0.out.drew (BN.out.ext ((Ext.refl nob wc).drew) (fun _ _ h => h)) (fun j hj h => by obtain ⟨a, ha, hb⟩ := hj; cases ha; have h1 := hF1P.out; have h2 := HNB.out; have h3 : nb = j := hb; omega) (by have := hAl.out; omega)).mono ?_; intro e w20 hq; obtain ⟨rfl, F3, k4, x4⟩ := Z0.out.step hq; have Z1 := Lib.hid k4; have t1 := x4.cell t0 Z0.out.nz; have BT1 : Hid (Bytes w20 (some ⟨tb, 1, none⟩) 32 (digD D x.1)) := BT.out.ext x4 (fun j hj h => by obtain ⟨a, ha, hb⟩ := hj; cases ha; exact Z0.out.nz (by rw [show tb = j from hb]; exact h)); have hb1 : Hid (((A0 ++ entsB D ((sortL L).take k)) ++ x.1).length + 10 ≤ big) := (by show _ ≤ _; have h1 := hAl.out; have h3 := x.2; simp only [List.length_append] at *; omega); clear hq k4 x4))
          have hent : Hid (A0 ++ entsB D ((sortL L).take (k + 1)) = (A0 ++ entsB D ((sortL L).take k)) ++ x.1 ++ countB vm ++ digD D x.1) := by
            show _ = _
            rw [List.take_add_one, HX.out]
            simp only [entsB, Option.toList_some, List.flatMap_append, List.flatMap_cons, List.flatMap_nil, List.append_nil, List.append_assoc, HVM.out, Int.toNat_natCast]
          have W3 : Hid (Writer w22 P (A0 ++ entsB D ((sortL L).take (k + 1))) F5) := by
            show Writer _ _ _ _
            rw [hent.out]
            exact Z3.out.wr
          have E3 := Lib.hid Z3.out.ext
          have F3f := Lib.hid Z3.out.far
          clear hent Z0 Z1 Z2 Z3 BT BT1 BT2 BN t0 t1 t2 u0 hb1 hb2
          have hkw : IntKind.i64.wrap ((k : Int) + 1) = ((k + 1 : Nat) : Int) := by
            have h1 : k < L.length := HKN.out
            have h2 : L.length ≤ 64 := hL64.out
            rw [IntWalk.i64_in _ (by omega)]; omega
          go_wp2_with fail
          go_roundw
          case rel =>
            have h1 : k < L.length := HKN.out
            have h2 : L.length ≤ 64 := hL64.out
            exact ⟨k + 1, F5, by go_num, h1, W3.out, F3f.out, E3.out⟩
          case measure =>
            have h1 : k < L.length := HKN.out
            have h2 : L.length ≤ 64 := hL64.out
            simp [intOf]; omega
        · have hke : k = L.length := by omega
          have hki : ¬ (k : Int) < L.length := by omega
          have W5 : Hid (Writer wr P (marksL life epoch D (sortL L)) F1) := by
            have h1 := HW.out
            show Writer _ _ _ _
            rw [hke, ← sortL_len L, List.take_length, HA0.out, ← sortL_len L] at h1
            exact h1
          have hbg : Hid ((marksL life epoch D (sortL L)).length ≤ big) := by
            have h1 := entsB_big (D := D) hA0l.out (fun n => (H.out.2.1.look_ok n.2).2) (L := sortL L) (by rw [sortL_len]; exact hL64.out)
            rw [HA0.out, ← sortL_len L] at h1
            show (marksL life epoch D (sortL L)).length ≤ big
            unfold marksL
            omega
          clear hke
          go_wp2_with fail
          refine (wbytes_ok P _ F1 _ W5.out hbg.out).mono ?_
          rintro e w30 ⟨v, rfl, g1, g2, g3⟩
          have K1 := Lib.hid g1
          have K2 := Lib.hid g2
          have K3 := Lib.hid g3
          clear g1 g2 g3
          go_wp2_with fail
          go_ret
          have hE := E5.out.trans' HE1.out
          exact ⟨v, L, rfl, HC.out.1, fun n => ⟨fun hn => ((HC.out.2 n).1 hn).1, fun hn => (HC.out.2 n).2 ⟨hn, HL0.out _⟩⟩, K1.out, hE.trans' K2.out, fun j hj => Nat.le_trans hE.size (K3.out j hj)⟩
    · intro n hn cv cd kl yd yp w2 cnt2 hkey hlk hv hat hrg2 hlt hg2 hs2 hen
      have hkl : kl = .string n := Option.some.inj (hkey.symm.trans (keyOf_name hn))
      subst hkl
      have HC2 := Lib.hid (HC.out.step hlk hat)
      have HRG2 := Lib.hid hrg2
      have HLT := Lib.hid hlt
      have HG2 := Lib.hid hg2
      have hi60 : (Tryd.prog.info? 60).map (·.size) = some (n.map byt).toArray.size := by rw [List.size_toArray, List.length_map, hn]; kernel_rfl
      have hone60 : (n.map byt).toArray.all (·.oneCell') = true := all_oneCell_toArray (fun u hu => oneCell_byt _ u hu)
      have hold60 : ∀ (cs : Array Value), cs.size = 32 → cs.size = (n.map byt).toArray.size := fun cs h => by rw [h]; simp [hn]
      have HI := Lib.hid hi60
      have E2 : Hid (Ext (fun k => k = r) wr w2) := (Ext.grow hg2).mono (fun i _ hi => (Option.some.inj hi).symm)
      have HO2 : Hid (Own w2 60 32 u3 L.length (L.flatMap encN)) := HO.out.ext E2.out (fun k hk h => by have h1 := HF.out k hk; have h2 := HR.out; omega)
      clear hkey hlk hv hat hrg2 hlt hg2 hs2
      go_wp2_with (first
        | (at_builtin; refine wpList_names rfl (.tmp 22) (.tmp 24) rfl _ L rfl ?zz1 _ 1 ⟨n, hn⟩ rfl ?zz2 ?zz3 ?zz4)
        | (refine wpList_store_new rfl 60 (.tmp 4) (.tmp 21) rfl w2.heap.size (n.map byt).toArray rfl rfl 60 _ (blk_new w2 _) HI.out (hold60 _ rfl) hone60 ?_; intro w3 k3 e3; have K3 := Lib.hid k3; have E3 := Lib.hid e3; clear k3 e3)
        | (refine wpList_load_row rfl 60 (.tmp 4) rfl w2.heap.size rfl 60 (n.map byt).toArray (0, 0) _ K3.out Tryd.underlying60 rfl HI.out ?_)
        | fail)
      all_goals have E23 : Hid (Ext nob w2 w3) := ((Ext.refl nob w2).alloc _).trans E3.out (fun i hi h => absurd hi (by rw [h]; exact Nat.lt_irrefl _))
      all_goals have HO3 : Hid (Own w3 60 32 u3 L.length (L.flatMap encN)) := HO2.out.ext E23.out (fun _ _ h => h)
      case zz1 => exact HO3.out.ext ((Ext.refl nob w3).alloc _) (fun _ _ h => h)
      case zz2 => exact Rd.of_heap (blk_new w3 _) 0 (fun j u hj => by rw [fold_zero _ _ (by simp [hn])]; simpa [encN] using hj)
      case zz3 => have h1 := HCL.out; have h2 := HS.out; omega
      intro v4 w4 o4 e4 f4
      have E24 : Hid (Ext (fun k => u3.ownBlock = some k) w2 w4) := ((E23.out.alloc _).nob).trans' e4
      have HRG4 : Hid (w4.ranges Tryd.prog 60 seenElem b r (Maps.size D) D (fun z => left z && !z.sameKey (.string n)) cnt2) :=
        HRG2.out.kept (grown_of_ext E24.out) (fun h => by have h1 := HF.out b h.symm; have h2 := H.out.2.1.lt; omega) (fun h => by have h1 := HF.out r h.symm; have h2 := HR.out; omega)
      have HE4 : Hid (Ext nob w w4) := (HE.out.trans E2.out (fun i hi h => by have h2 := HR.out; omega)).trans E24.out (fun i hi h => by have h1 := HF.out i h; omega)
      have HF4 : Hid (∀ k, v4.ownBlock = some k → w.heap.size < k) := fun k hk => by
        rcases f4 k hk with h | h
        · exact HF.out k h
        · have h1 := HE.out.size; have h2 := E2.out.size; have h3 := E23.out.size; have h4 := HRr.out.lt; have h5 := HR.out; have h6 : w3.heap.size + 1 ≤ k := h; omega
      have HO4 := Lib.hid o4
      clear e4 f4 o4
      go_wp2_with fail
      go_roundw
      case rel => exact ⟨_, cnt2, L ++ [⟨n, hn⟩], HRG4.out, by have h1 := HCL.out; have h2 := HLT.out; simp; omega, by simpa using HC2.out, by simpa using HO4.out, HF4.out, HE4.out⟩
      case measure => rw [HRG4.out.left_eq, HRr.out.left_eq]; exact HLT.out
end Go.Proofs.YtfgfhfmhadondaaDoor
