/- mark: Judge, Note. -/
import Derived.Test.YtfgfhfmhadondaaDoorMarkB
import Derived.Laws.StructEq
import Derived.Stop.BytesEq
import Derived.Deep.DeepCutAuto
import Derived.Laws.Tables
namespace Go.Proofs.YtfgfhfmhadondaaDoor
open Go.RowKit Go.Maps
set_option maxHeartbeats 400000

theorem blk_drew' {w : World} {k : Nat} {o : Option Obj} (h : w.heap[k]? = o) : w.drew.heap[k]? = o := h
theorem wp_store_new {P : Program} {o : Oper} {a : Act} {w : World} {K : Act → World → Prop} {Q : Exit → Act → World → Prop} (ty : TypeId) (x y : Operand) (ho : o.op = .store ty x y)
    (g : Nat) (cells : Array Value) (hx : a.eval x = .pointer (some ⟨g, 0, none⟩)) (hy : a.eval y = .agg cells)
    (t : TypeId) (old : Array Value) (hg : w.heap[g]? = some (.cells old t (0, 0))) (hi : (P.info? ty).map (·.size) = some cells.size)
    (hold : old.size = cells.size) (h1 : cells.all (·.oneCell') = true)
    (h : ∀ w2, w2.heap[g]? = some (.cells cells t (0, 0)) → Ext (fun k => k = g) w w2 → K (a.put o.dst undef) w2) : o.wp P a w K Q :=
  wp_store_row ty x y ho g cells hx hy t old hg hi hold h1 (h _ (setRow_heap w g old cells t _ hg) ((Ext.refl _ w).setRow g cells (fun _ => rfl)))
def cmpI (x y : Int) : Int := if x < y then -1 else if y < x then 1 else 0
theorem isnan_ok (x : Int) (w : World) : Calls Tryd.prog 127 #[.int .i64 x] w fun e w' => e = .returned (.bool false) ∧ w = w' := by
  go_enter Tryd.func127, Tryd.ntmps127
  go_wp2_with fail
  go_ret
  exact ⟨rfl, rfl⟩
theorem cmpc_ok (x y : Int) (w : World) : Calls Tryd.prog 87 #[.int .i64 x, .int .i64 y] w fun e w' => e = .returned (.int .i64 (cmpI x y)) ∧ w = w' := by
  go_enter Tryd.func87, Tryd.ntmps87
  go_wp2_with (first | (go_at_call 127; refine (isnan_ok _ _).mono ?_; rintro e w' ⟨rfl, rfl⟩))
  all_goals (go_ret; exact ⟨congrArg (fun z => Ending.returned (Value.int IntKind.i64 z)) (by unfold cmpI; (repeat' split) <;> first | rfl | omega), rfl⟩)

def judgeE (D : DataW Unit) (n : List UInt8) (v : Int) (env : List UInt8) : Nat :=
  if v < 0 ∨ 9007199254740991 < v ∨ ¬ (v = 0 ↔ env = []) then 2
  else if v < verD D n then 100
  else if v = verD D n ∧ hasD D n = true ∧ shaB env ≠ digD D n then 101 else 0

set_option linter.unusedSimpArgs false in
set_option maxRecDepth 20000 in
set_option maxHeartbeats 1000000 in
theorem mjudge_ok (p b life epoch : Nat) (D : DataW Unit) (n : List UInt8) (hn : n.length = 32) (v : Int) (ao : Option Addr) (m c : Nat) (env : List UInt8) (w : World) (h : MarksAt w p b life epoch D) (hb : Bytes w ao m env) (hm : m + 80 ≤ big) (hG : Laid w) :
    Calls Tryd.prog 29 #[.pointer (some ⟨p, 0, none⟩), nameV n, .int .i64 v, .slice ao m c] w fun e w' => e = .returned (.int .i64 (judgeE D n v env : Int)) ∧ Ext nob w w' := by
  obtain ⟨c0, c1, c2, -, -, -, hl⟩ := cells3 h.1
  have H := Lib.hid h
  have HB := Lib.hid hb
  have HM := Lib.hid hm
  have HG := Lib.hid hG
  clear h hb hm hG
  go_enter Tryd.func29, Tryd.ntmps29
  go_wp2_with fail
  obtain ⟨nb, hnb⟩ : ∃ nb, nb = w.heap.size := ⟨_, rfl⟩
  obtain ⟨W, hW⟩ : ∃ W, W = w.alloc (.cells (n.map byt).toArray 60) := ⟨_, rfl⟩
  have kn : W.heap[nb]? = some (.cells (n.map byt).toArray 60 (0, 0)) := by rw [hW, hnb]; exact blk_new w _
  have HW : Hid (Ext nob w W) := by rw [hW]; exact (Ext.refl nob w).alloc _
  rw [← hW, ← hnb]
  clear hW hnb
  refine (mnone_ok p b life epoch D _ (H.out.ext HW.out (fun h => h) (fun h => h))).mono ?_
  rintro e w1 ⟨rfl, rfl⟩
  have d2 := HW.out.cell c2 (fun h => h)
  have hlw := Nat.lt_of_lt_of_le hl HW.out.size
  have hml : m = env.length := HB.out.1.symm
  have hu60 := Tryd.underlying60
  have hi60 : (Tryd.prog.info? 60).map (·.size) = some (n.map byt).length := by rw [List.length_map, hn]; kernel_rfl
  have HSV : Hid (∀ w', Ext nob W w' → (w'.rangeAt nb 0 (n.map byt) ∧ w'.cell? ⟨p, 2, none⟩ = some (.map (some b)) ∧ (Instr.lookup 114 (.map (some b)) (nameV n) true).run Tryd.prog w' = .ok (.tuple #[seenV (verD D n) (digD D n), .bool (hasD D n)]) w')) := fun w' e =>
    ⟨fun j v hj => cell_of' (e.blk kn (fun h => h)) (by rw [Nat.zero_add]; simpa using hj), e.cell d2 (fun h => h), ((H.out.2.1.ext (HW.out.trans' e) (fun h => h)).look_ok hn).1⟩
  clear c0 c1 c2 hl kn d2
  by_cases h1 : v < 0
  · have hj : judgeE D n v env = 2 := by unfold judgeE; rw [if_pos (.inl h1)]
    have HJ := Lib.hid hj
    clear hj
    go_wp2_with fail
    go_ret
    rw [HJ.out]
    exact ⟨rfl, HW.out⟩
  by_cases h2 : 9007199254740991 < v
  · have hj : judgeE D n v env = 2 := by unfold judgeE; rw [if_pos (.inr (.inl h2))]
    have HJ := Lib.hid hj
    clear hj
    go_wp2_with fail
    go_ret
    rw [HJ.out]
    exact ⟨rfl, HW.out⟩
  by_cases h3 : v = 0 ↔ env = []
  · obtain ⟨x, hx⟩ : ∃ x, (v == 0) = x := ⟨_, rfl⟩
    have hm0 : ((m : Int) == 0) = x := by
      rw [← hx]
      by_cases hv : v = 0
      · have := h3.1 hv
        rw [this] at hml
        simp [hv, hml]
      · have : env ≠ [] := fun e => hv (h3.2 e)
        have hm1 : m ≠ 0 := fun e => this (List.eq_nil_of_length_eq_zero (by omega))
        have e1 : (v == 0) = false := by simp [hv]
        have e2 : ((m : Int) == 0) = false := by simp [hm1]
        rw [e1, e2]
    have hj : judgeE D n v env = if v < verD D n then 100 else if v = verD D n ∧ hasD D n = true ∧ shaB env ≠ digD D n then 101 else 0 := by
      unfold judgeE; rw [if_neg (by rintro (h | h | h); exact h1 h; exact h2 h; exact h h3)]
    have HJ := Lib.hid hj
    have hdl := (H.out.2.1.look_ok hn).2
    have hi122 : (Tryd.prog.info? 122).map (·.size) = some (Value.int .i64 (verD D n) :: (digD D n).map byt).toArray.size := by simp only [List.size_toArray, List.length_cons, List.length_map, hdl]; kernel_rfl
    have hold122 : ∀ (cs : Array Value), cs.size = 33 → cs.size = (Value.int .i64 (verD D n) :: (digD D n).map byt).toArray.size := fun cs h => by rw [h]; simp [hdl]
    have hone122 : (Value.int .i64 (verD D n) :: (digD D n).map byt).toArray.all (·.oneCell') = true := all_oneCell_toArray (fun u hu => by
      rcases List.mem_cons.1 hu with rfl | hu
      · rfl
      · exact oneCell_byt _ u hu)
    clear hj h3 hml
    go_wp2_with fail
    refine wp_region_held_drew (S := (fun w' => w'.rangeAt nb 0 (n.map byt) ∧ w'.cell? ⟨p, 2, none⟩ = some (.map (some b)) ∧ (Instr.lookup 114 (.map (some b)) (nameV n) true).run Tryd.prog w' = .ok (.tuple #[seenV (verD D n) (digD D n), .bool (hasD D n)]) w')) (by kernel_rfl) (HSV.out _ (Ext.refl nob W).drew) (fun hHeld => ?_)
    refine wpAnyH_take (i := 0) (v := ?_) rfl (by kernel_rfl) (by kernel_rfl) (by kernel_rfl) (fun _ _ _ h => h) (Or.inl ⟨by rfl, ?_⟩) (by assumption) ?_
    rotate_left
    · intro w hSw; (try dsimp only at hSw); go_simp; try with_reducible rfl
    try simp only [Act.put, List.setIfInBounds_toArray, List.set_cons_zero, List.set_cons_succ]
    refine wpAnyH_take (i := 1) (v := ?_) rfl (by kernel_rfl) (by kernel_rfl) (by kernel_rfl) (fun _ _ _ h => h) (Or.inl ⟨by rfl, ?_⟩) (by assumption) ?_
    rotate_left
    · intro w hSw; (try dsimp only at hSw); go_simp; try with_reducible rfl
    try simp only [Act.put, List.setIfInBounds_toArray, List.set_cons_zero, List.set_cons_succ]
    refine wpAnyH_take (i := 2) (v := ?_) rfl (by kernel_rfl) (by kernel_rfl) (by kernel_rfl) (fun _ _ _ h => h) (Or.inl ⟨by rfl, ?_⟩) (by assumption) ?_
    rotate_left
    · intro w hSw; (try dsimp only at hSw); go_simp; try with_reducible rfl
    try simp only [Act.put, List.setIfInBounds_toArray, List.set_cons_zero, List.set_cons_succ]
    refine wpAnyH_take (i := 3) (v := ?_) rfl (by kernel_rfl) (by kernel_rfl) (by kernel_rfl) (fun _ _ _ h => h) (Or.inl ⟨by rfl, ?_⟩) (by assumption) ?_
    rotate_left
    · intro w hSw; (try dsimp only at hSw); go_simp; try with_reducible rfl
    try simp only [Act.put, List.setIfInBounds_toArray, List.set_cons_zero, List.set_cons_succ]
    refine wpAnyH_take (i := 4) (v := .agg (n.map byt).toArray) rfl (by kernel_rfl) (by kernel_rfl) (by kernel_rfl) (fun _ _ _ h => h) (yieldsIf_load_mid (by rfl) 60 (.tmp 5) rfl nb 0 rfl (n.map byt) _ (fun w hSw => hSw.1) hu60 rfl hi60) (by assumption) ?_
    try simp only [Act.put, List.setIfInBounds_toArray, List.set_cons_zero, List.set_cons_succ]
    refine wpAnyH_take (i := 5) (v := ?_) rfl (by kernel_rfl) (by kernel_rfl) (by kernel_rfl) (fun _ _ _ h => h) (Or.inl ⟨by rfl, ?_⟩) (by assumption) ?_
    rotate_left
    · intro w hSw; (try dsimp only at hSw); go_simp; try with_reducible rfl
    try simp only [Act.put, List.setIfInBounds_toArray, List.set_cons_zero, List.set_cons_succ]
    refine wpAnyH_take (i := 6) (v := ?_) rfl (by kernel_rfl) (by kernel_rfl) (by kernel_rfl) (fun _ _ _ h => h) (Or.inl ⟨by rfl, ?_⟩) (by assumption) ?_
    rotate_left
    · intro w hSw; (try dsimp only at hSw); go_simp; try with_reducible rfl
    try simp only [Act.put, List.setIfInBounds_toArray, List.set_cons_zero, List.set_cons_succ]
    refine wpAnyH_take (i := 7) (v := ?_) rfl (by kernel_rfl) (by kernel_rfl) (by kernel_rfl) (fun _ _ _ h => h) (Or.inl ⟨by rfl, ?_⟩) (by assumption) ?_
    rotate_left
    · intro w hSw; (try dsimp only at hSw); go_simp; try with_reducible rfl
    try simp only [Act.put, List.setIfInBounds_toArray, List.set_cons_zero, List.set_cons_succ]
    refine wpAnyH_take (i := 8) (v := ?_) rfl (by kernel_rfl) (by kernel_rfl) (by kernel_rfl) (fun _ _ _ h => h) (Or.inl ⟨by rfl, ?_⟩) (by assumption) ?_
    rotate_left
    · intro w hSw; (try dsimp only at hSw); go_simp; try with_reducible rfl
    try simp only [Act.put, List.setIfInBounds_toArray, List.set_cons_zero, List.set_cons_succ]
    refine wpAnyH_ready (rs := [9]) (by kernel_rfl) (by simp) ?_
    refine AllReadyH.cons rfl (fun K hK => ?_) AllReadyH.nil
    go_simp
    refine hK.out _ _ (HSV.out _ ((Ext.refl nob W).drew.alloc _)) (fun _ => ?_)
    clear hK K
    try simp only [Act.put, List.setIfInBounds_toArray, List.set_cons_zero, List.set_cons_succ]
    refine wpAnyH_ready (rs := [10]) (by kernel_rfl) (by simp) ?_
    refine AllReadyH.cons rfl (fun K hK => ?_) AllReadyH.nil
    rw [if_pos (by rfl)]
    refine wp_store_new 122 (.tmp 9) (.tmp 34) rfl W.heap.size (Value.int .i64 (verD D n) :: (digD D n).map byt).toArray rfl rfl 122 _ (by first | exact blk_new _ _ | exact blk_drew' (blk_new _ _)) hi122 (hold122 _ rfl) hone122 ?_
    intro Wf kf ef
    have EF : Hid (Ext nob W Wf) := (by first | exact ((Ext.refl nob W).drew.alloc _) | exact ((Ext.refl nob W).alloc _).drew : Ext nob W _).trans ef (fun i hi h => absurd hi (by rw [h]; exact Nat.lt_irrefl _))
    have KF := Lib.hid kf
    clear ef kf
    refine hK.out _ _ (HSV.out _ EF.out) (fun _ => ?_)
    clear hK K
    try simp only [Act.put, List.setIfInBounds_toArray, List.set_cons_zero, List.set_cons_succ]
    refine wpAnyH_take (i := 11) (v := ?_) rfl (by kernel_rfl) (by kernel_rfl) (by kernel_rfl) (fun _ _ _ h => h) (Or.inl ⟨by rfl, ?_⟩) (by assumption) ?_
    rotate_left
    · intro w hSw; (try dsimp only at hSw); go_simp; try with_reducible rfl
    try simp only [Act.put, List.setIfInBounds_toArray, List.set_cons_zero, List.set_cons_succ]
    refine wpAnyH_done (by kernel_rfl) ?_ _
    clear hHeld HSV hi122 hold122 hone122 hu60 hi60 hx hm0
    obtain ⟨tb, htb⟩ : ∃ tb, tb = W.heap.size := ⟨_, rfl⟩
    rw [← htb] at KF
    have g0 : Wf.cell? ⟨tb, 0, none⟩ = some (.int .i64 (verD D n)) := cell_of' KF.out rfl
    have htl : tb < Wf.heap.size := blk_lt KF.out
    simp only [← htb]
    clear htb
    go_wp2_with fail
    refine (cmpc_ok v (verD D n) _).mono ?_
    by_cases hlt : v < verD D n
    · have hc : cmpI v (verD D n) = -1 := by unfold cmpI; rw [if_pos hlt]
      rw [hc]
      have HC := Lib.hid hlt
      clear hlt hc
      rintro e w1 ⟨rfl, rfl⟩
      go_wp2_with fail
      go_ret
      rw [HJ.out, if_pos HC.out]
      exact ⟨rfl, HW.out.trans' EF.out⟩
    by_cases hgt : verD D n < v
    · have hc : cmpI v (verD D n) = 1 := by unfold cmpI; rw [if_neg hlt, if_pos hgt]
      rw [hc]
      have HC := Lib.hid hlt
      have HC2 := Lib.hid hgt
      clear hlt hgt hc
      rintro e w1 ⟨rfl, rfl⟩
      go_wp2_with fail
      go_ret
      rw [HJ.out, if_neg (show ¬ v < verD D n by have := HC2.out; omega), if_neg (fun h => by have h1 := h.1; have h2 := HC2.out; omega)]
      exact ⟨rfl, HW.out.trans' EF.out⟩
    have hc : cmpI v (verD D n) = 0 := by unfold cmpI; rw [if_neg hlt, if_neg hgt]
    have hve : v = verD D n := by omega
    rw [hc]
    have HVE := Lib.hid hve
    clear hlt hgt hc hve
    rintro e w1 ⟨rfl, rfl⟩
    by_cases hh : hasD D n = true
    · obtain ⟨SH, hSH⟩ : ∃ SH, SH = ((shaB env).map byt).toArray := ⟨_, rfl⟩
      have hq : ∀ w, (Op.equalIn 10000 38 (.agg SH) (.agg ((digD D n).map byt).toArray)).run Tryd.prog w = .ok (shaB env == digD D n) w := fun w => by
        rw [hSH]
        exact run_equalIn_bytes (P := Tryd.prog) w 9998 38 5 32 Tryd.underlying38 Tryd.underlying5 (fun _ => by kernel_rfl) (shaB env) (digD D n) (digest_len _ 32) hdl
      obtain ⟨bb, hbb⟩ : ∃ bb, bb = (shaB env == digD D n) := ⟨_, rfl⟩
      rw [← hbb] at hq
      have hm : Tryd.prog.eqGuardType Tryd.prog.depth 38 = false := by kernel_rfl
      have hu38 := Tryd.underlying38
      have hi38 : (Tryd.prog.info? 38).map (·.size) = some ((digD D n).map byt).length := by rw [List.length_map, hdl]; kernel_rfl
      have HSV : Hid (∀ w', Ext nob Wf w' → w'.rangeAt tb 1 ((digD D n).map byt)) := fun w' e j u hj => cell_of' (e.blk KF.out (fun h => h)) (by rw [Nat.add_comm]; simpa using hj)
      have HSH := Lib.hid hSH
      have HBB := Lib.hid hbb
      clear hSH hbb hdl
      go_wp2_with fail
      go_region_held3 (fun w' => w'.rangeAt tb 1 ((digD D n).map byt)) (first | exact HSV.out _ (Ext.refl nob Wf).drew | exact HSV.out _ EG.out)
        ((go_at_call 28; refine (sha_ok ao m c env _ ((HB.out.ext (HW.out.trans' EF.out) (fun _ _ h => h)).ext ((Ext.refl nob Wf).drew) (fun _ _ h => h)) ((HG.out.ext (HW.out.trans' EF.out) (fun h => h) (fun h => h)).ext ((Ext.refl nob Wf).drew) (fun h => h) (fun h => h)) HM.out).mono ?_; rw [← HSH.out]; rintro e w2 ⟨rfl, g2⟩; have EG : Hid (Ext nob Wf w2) := Ext.undrew g2; clear g2))
      have HQ := Lib.hid hh
      have HE2 : Hid (Ext nob w w2) := (HW.out.trans' EF.out).trans' EG.out
      clear hq hh
      cases bb
      · go_wp2_with fail
        go_ret
        rw [HJ.out, if_neg (show ¬ v < verD D n by have := HVE.out; omega), if_pos ⟨HVE.out, HQ.out, fun h => by have h1 := HBB.out; rw [h] at h1; simp at h1⟩]
        exact ⟨rfl, HE2.out⟩
      · go_wp2_with fail
        go_ret
        rw [HJ.out, if_neg (show ¬ v < verD D n by have := HVE.out; omega), if_neg (fun h => h.2.2 (by simpa using HBB.out.symm))]
        exact ⟨rfl, HE2.out⟩
    · have hh' : hasD D n = false := by simpa using hh
      have HH := Lib.hid hh
      clear hh
      go_wp2_with fail
      go_quiet (fail)
      go_wp2_with fail
      go_ret
      rw [HJ.out, if_neg (show ¬ v < verD D n by have := HVE.out; omega), if_neg (fun h => HH.out h.2.1)]
      exact ⟨rfl, (HW.out.trans' EF.out).drewN _⟩
  · have hj : judgeE D n v env = 2 := by unfold judgeE; rw [if_pos (.inr (.inr h3))]
    have HJ := Lib.hid hj
    obtain ⟨x, hx⟩ : ∃ x, (v == 0) = x := ⟨_, rfl⟩
    have hm0 : ((m : Int) == 0) = !x := by
      rw [← hx]
      by_cases hv : v = 0
      · have : env ≠ [] := fun e => h3 ⟨fun _ => e, fun _ => hv⟩
        have hm1 : m ≠ 0 := fun e => this (List.eq_nil_of_length_eq_zero (by omega))
        simp [hv, hm1]
      · have : env = [] := by
          by_cases he : env = []
          · exact he
          · exact absurd ⟨fun h => absurd h hv, fun h => absurd h he⟩ h3
        rw [this] at hml
        simp [hv, hml]
    clear h3 hj hml
    go_wp2_with fail
    go_ret
    rw [HJ.out]
    exact ⟨rfl, HW.out⟩
end Go.Proofs.YtfgfhfmhadondaaDoor
