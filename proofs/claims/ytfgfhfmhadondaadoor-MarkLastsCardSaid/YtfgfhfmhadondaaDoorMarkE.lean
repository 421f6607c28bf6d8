/- mark: Note. -/
import Derived.Test.YtfgfhfmhadondaaDoorMarkD
namespace Go.Proofs.YtfgfhfmhadondaaDoor
open Go.RowKit Go.Maps
set_option maxHeartbeats 400000

theorem fold_at : ∀ (l : List Value) (k : Nat) (cs : Array Value), 1 + k + l.length ≤ cs.size →
    ((l.zipIdx k).foldl (fun cs x => cs.setIfInBounds (1 + x.2) x.1) cs).toList = cs.toList.take (1 + k) ++ l ++ cs.toList.drop (1 + k + l.length)
  | [], k, cs, h => by simp
  | x :: t, k, cs, h => by
    rw [List.length_cons] at h
    rw [List.zipIdx_cons, List.foldl_cons, fold_at t (k + 1) _ (by simp; omega)]
    simp only [Array.toList_setIfInBounds]
    have hl : 1 + k < cs.toList.length := by rw [Array.length_toList]; omega
    have e : cs.toList.set (1 + k) x = (cs.toList.take (1 + k) ++ [x]) ++ cs.toList.drop (1 + k + 1) := by
      rw [List.set_eq_take_append_cons_drop, if_pos hl]; simp
    have hA : (cs.toList.take (1 + k) ++ [x]).length = 1 + (k + 1) := by rw [List.length_append, List.length_take, List.length_singleton]; omega
    rw [e, List.take_left' hA, List.drop_append, List.drop_eq_nil_of_le (by rw [hA]; omega), List.nil_append, hA, List.drop_drop]
    simp only [List.append_assoc, List.singleton_append, List.length_cons]
    congr 3
    rw [show 1 + k + 1 + (1 + (k + 1) + t.length - (1 + (k + 1))) = 1 + k + (t.length + 1) by omega]
theorem build_seen (v : Int) {d : List UInt8} (hd : d.length = 32) (w : World) : (Instr.build 122 #[(0, .int .i64 v), (1, .agg (d.map byt).toArray)]).run Tryd.prog w = .ok (seenV v d) w := by
  have hsz : (d.map byt).toArray.size = 32 := by simp [hd]
  obtain ⟨SH, hSH⟩ : ∃ SH, SH = (d.map byt).toArray := ⟨_, rfl⟩
  rw [← hSH] at hsz ⊢
  go_simp
  unfold seenV
  congr 1
  apply Array.ext'
  rw [fold_at _ 0 _ (by simp [hd])]
  simp [hd]

theorem exec_build {P : Program} {w : World} {a : Act} {o : Oper} {T : TypeId} {x y : Operand} {v : Int} {SH : Array Value} {r : Value} (ho : o.op = .build T #[(0, x), (1, y)]) (hx : a.eval x = .int .i64 v) (hy : a.eval y = .agg SH)
    (hrun : (Instr.build T #[(0, .int .i64 v), (1, .agg SH)]).run P w = .ok r w) : (execOp a.eval o).run P w = .ok (.value r) w := by
  simp only [execOp, ho, List.map_toArray, List.map_cons, List.map_nil, hx, hy, Sem.run_bind, hrun, Result.andThen_ok, Sem.run_pure]

def noteE (D : DataW Unit) (n : List UInt8) (v : Int) (env : List UInt8) : Nat :=
  if judgeE D n v env ≠ 0 then judgeE D n v env else if v ≤ verD D n then 0 else if hasD D n = false ∧ Maps.size D = 64 then 5 else 0
def noteD (D : DataW Unit) (n : List UInt8) (v : Int) (env : List UInt8) : DataW Unit :=
  if judgeE D n v env = 0 ∧ verD D n < v ∧ ¬ (hasD D n = false ∧ Maps.size D = 64) then putD D n v (shaB env) else D

set_option linter.unusedSimpArgs false in
set_option maxRecDepth 20000 in
set_option maxHeartbeats 1000000 in
theorem mnote_ok (p b life epoch : Nat) (D : DataW Unit) (n : List UInt8) (hn : n.length = 32) (v : Int) (ao : Option Addr) (m c : Nat) (env : List UInt8) (w : World) (h : MarksAt w p b life epoch D) (hs : Maps.size D ≤ 64) (hb : Bytes w ao m env) (hm : m + 80 ≤ big) (hG : Laid w) :
    Calls Tryd.prog 31 #[.pointer (some ⟨p, 0, none⟩), nameV n, .int .i64 v, .slice ao m c] w fun e w' => e = .returned (.int .i64 (noteE D n v env : Int)) ∧ MarksAt w' p b life epoch (noteD D n v env) ∧ Ext (fun k => k = b) w w' := by
  obtain ⟨c0, c1, c2, -, -, -, hl⟩ := cells3 h.1
  have H := Lib.hid h
  have HS := Lib.hid hs
  have HB := Lib.hid hb
  have HM := Lib.hid hm
  have HG := Lib.hid hG
  clear h hb hm hG hs
  have hi60 : (Tryd.prog.info? 60).map (·.size) = some (n.map byt).toArray.size := by rw [List.size_toArray, List.length_map, hn]; kernel_rfl
  go_enter Tryd.func31, Tryd.ntmps31
  go_upto_region 1 with fail
  obtain ⟨nb, hnb⟩ : ∃ nb, nb = w.heap.size := ⟨_, rfl⟩
  obtain ⟨W, hW⟩ : ∃ W, W = w.alloc (.cells (n.map byt).toArray 60) := ⟨_, rfl⟩
  have kn : W.heap[nb]? = some (.cells (n.map byt).toArray 60 (0, 0)) := by rw [hW, hnb]; exact blk_new w _
  have HW : Hid (Ext nob w W) := by rw [hW]; exact (Ext.refl nob w).alloc _
  have KN := Lib.hid kn
  have nbn : Hid (w.heap.size ≤ nb) := by rw [hnb]; exact Nat.le_refl _
  rw [← hW, ← hnb]
  clear hW hnb kn
  go_wp2_with (refine wpList_load_row rfl 60 (.tmp 5) rfl nb rfl 60 (n.map byt).toArray (0, 0) _ KN.out Tryd.underlying60 rfl hi60 ?_)
  by_cases hj : judgeE D n v env = 0
  · refine (mjudge_ok p b life epoch D n hn v ao m c env _ (H.out.ext HW.out (fun h => h) (fun h => h)) (HB.out.ext HW.out (fun _ _ h => h)) HM.out (HG.out.ext HW.out (fun h => h) (fun h => h))).mono ?_
    rw [hj]
    rintro e w2 ⟨rfl, g2⟩
    have G2 := Lib.hid g2
    have HJ := Lib.hid hj
    have hu60 := Tryd.underlying60
    have hi60' : (Tryd.prog.info? 60).map (·.size) = some (n.map byt).length := by rw [List.length_map, hn]; kernel_rfl
    have HSV : Hid (∀ w', Ext nob w2 w' → (fun w' => w'.rangeAt nb 0 (n.map byt) ∧ w'.cell? ⟨p, 2, none⟩ = some (.map (some b)) ∧ (Instr.lookup 114 (.map (some b)) (nameV n) true).run Tryd.prog w' = .ok (.tuple #[seenV (verD D n) (digD D n), .bool (hasD D n)]) w') w') := fun w' e =>
      ⟨fun j v hj => cell_of' ((G2.out.trans' e).blk KN.out (fun h => h)) (by rw [Nat.zero_add]; simpa using hj), ((HW.out.trans' G2.out).trans' e).cell c2 (fun h => h), ((H.out.2.1.ext ((HW.out.trans' G2.out).trans' e) (fun h => h)).look_ok hn).1⟩
    have hdl := (H.out.2.1.look_ok hn).2
    have hi122 : (Tryd.prog.info? 122).map (·.size) = some (Value.int .i64 (verD D n) :: (digD D n).map byt).toArray.size := by simp only [List.size_toArray, List.length_cons, List.length_map, hdl]; kernel_rfl
    have hold122 : ∀ (cs : Array Value), cs.size = 33 → cs.size = (Value.int .i64 (verD D n) :: (digD D n).map byt).toArray.size := fun cs h => by rw [h]; simp [hdl]
    have hone122 : (Value.int .i64 (verD D n) :: (digD D n).map byt).toArray.all (·.oneCell') = true := all_oneCell_toArray (fun u hu => by
      rcases List.mem_cons.1 hu with rfl | hu
      · rfl
      · exact oneCell_byt _ u hu)
    have hlw := Nat.lt_of_lt_of_le hl (HW.out.trans' G2.out).size
    clear g2 hj c0 c1 c2 hl
    go_wp2_with fail
    refine wp_region_held_drew (S := (fun w' => w'.rangeAt nb 0 (n.map byt) ∧ w'.cell? ⟨p, 2, none⟩ = some (.map (some b)) ∧ (Instr.lookup 114 (.map (some b)) (nameV n) true).run Tryd.prog w' = .ok (.tuple #[seenV (verD D n) (digD D n), .bool (hasD D n)]) w')) (by kernel_rfl) (HSV.out _ (Ext.refl nob w2).drew) (fun hHeld => ?_)
    refine wpAnyH_take (i := 0) (v := ?_) rfl (by kernel_rfl) (by kernel_rfl) (by kernel_rfl) (fun _ _ _ h => h) (Or.inl ⟨by rfl, ?_⟩) (by assumption) ?_
    rotate_left
    · intro w hSw; (try dsimp only at hSw); go_simp; try with_reducible rfl
    try simp only [Act.put, List.setIfInBounds_toArray, List.set_cons_zero, List.set_cons_succ]
    refine wpAnyH_take (i := 1) (v := ?_) rfl (by kernel_rfl) (by kernel_rfl) (by kernel_rfl) (fun _ _ _ h => h) (Or.inl ⟨by rfl, ?_⟩) (by assumption) ?_
    rotate_left
    · intro w hSw; (try dsimp only at hSw); go_simp; try with_reducible rfl
    try simp only [Act.put, List.setIfInBounds_toArray, List.set_cons_zero, List.set_cons_succ]
    refine wpAnyH_take (i := 2) (v := ?_) rfl (by kernel_rfl) (by kernel_rfl) (by kernel_rfl) (fun _ _ _ h => h) (Or.inl ⟨by rfl, ?_⟩) (by assumption) ?_
    rotate_left
    · intro w hSw; (try dsimp only at hSw); go_simp; try with_reducible rfl
    try simp only [Act.put, List.setIfInBounds_toArray, List.set_cons_zero, List.set_cons_succ]
    refine wpAnyH_take (i := 3) (v := ?_) rfl (by kernel_rfl) (by kernel_rfl) (by kernel_rfl) (fun _ _ _ h => h) (Or.inl ⟨by rfl, ?_⟩) (by assumption) ?_
    rotate_left
    · intro w hSw; (try dsimp only at hSw); go_simp; try with_reducible rfl
    try simp only [Act.put, List.setIfInBounds_toArray, List.set_cons_zero, List.set_cons_succ]
    refine wpAnyH_take (i := 4) (v := .agg (n.map byt).toArray) rfl (by kernel_rfl) (by kernel_rfl) (by kernel_rfl) (fun _ _ _ h => h) (yieldsIf_load_mid (by rfl) 60 (.tmp 5) rfl nb 0 rfl (n.map byt) _ (fun w hSw => hSw.1) hu60 rfl hi60') (by assumption) ?_
    try simp only [Act.put, List.setIfInBounds_toArray, List.set_cons_zero, List.set_cons_succ]
    refine wpAnyH_take (i := 5) (v := ?_) rfl (by kernel_rfl) (by kernel_rfl) (by kernel_rfl) (fun _ _ _ h => h) (Or.inl ⟨by rfl, ?_⟩) (by assumption) ?_
    rotate_left
    · intro w hSw; (try dsimp only at hSw); go_simp; try with_reducible rfl
    try simp only [Act.put, List.setIfInBounds_toArray, List.set_cons_zero, List.set_cons_succ]
    refine wpAnyH_take (i := 6) (v := ?_) rfl (by kernel_rfl) (by kernel_rfl) (by kernel_rfl) (fun _ _ _ h => h) (Or.inl ⟨by rfl, ?_⟩) (by assumption) ?_
    rotate_left
    · intro w hSw; (try dsimp only at hSw); go_simp; try with_reducible rfl
    try simp only [Act.put, List.setIfInBounds_toArray, List.set_cons_zero, List.set_cons_succ]
    refine wpAnyH_take (i := 7) (v := ?_) rfl (by kernel_rfl) (by kernel_rfl) (by kernel_rfl) (fun _ _ _ h => h) (Or.inl ⟨by rfl, ?_⟩) (by assumption) ?_
    rotate_left
    · intro w hSw; (try dsimp only at hSw); go_simp; try with_reducible rfl
    try simp only [Act.put, List.setIfInBounds_toArray, List.set_cons_zero, List.set_cons_succ]
    refine wpAnyH_take (i := 8) (v := ?_) rfl (by kernel_rfl) (by kernel_rfl) (by kernel_rfl) (fun _ _ _ h => h) (Or.inl ⟨by rfl, ?_⟩) (by assumption) ?_
    rotate_left
    · intro w hSw; (try dsimp only at hSw); go_simp; try with_reducible rfl
    try simp only [Act.put, List.setIfInBounds_toArray, List.set_cons_zero, List.set_cons_succ]
    refine wpAnyH_ready (rs := [9]) (by kernel_rfl) (by simp) ?_
    refine AllReadyH.cons rfl (fun K hK => ?_) AllReadyH.nil
    go_simp
    refine hK.out _ _ (HSV.out _ ((Ext.refl nob w2).drew.alloc _)) (fun _ => ?_)
    clear hK K
    try simp only [Act.put, List.setIfInBounds_toArray, List.set_cons_zero, List.set_cons_succ]
    refine wpAnyH_ready (rs := [10]) (by kernel_rfl) (by simp) ?_
    refine AllReadyH.cons rfl (fun K hK => ?_) AllReadyH.nil
    rw [if_pos (by rfl)]
    refine wp_store_new 122 (.tmp 10) (.tmp 27) rfl w2.heap.size (Value.int .i64 (verD D n) :: (digD D n).map byt).toArray rfl rfl 122 _ (by first | exact blk_new _ _ | exact blk_drew' (blk_new _ _)) hi122 (hold122 _ rfl) hone122 ?_
    intro Wf kf ef
    have EF : Hid (Ext nob w2 Wf) := (by first | exact ((Ext.refl nob w2).drew.alloc _) | exact ((Ext.refl nob w2).alloc _).drew : Ext nob w2 _).trans ef (fun i hi h => absurd hi (by rw [h]; exact Nat.lt_irrefl _))
    have KF := Lib.hid kf
    clear ef kf
    refine hK.out _ _ (HSV.out _ EF.out) (fun _ => ?_)
    clear hK K
    try simp only [Act.put, List.setIfInBounds_toArray, List.set_cons_zero, List.set_cons_succ]
    refine wpAnyH_take (i := 11) (v := ?_) rfl (by kernel_rfl) (by kernel_rfl) (by kernel_rfl) (fun _ _ _ h => h) (Or.inl ⟨by rfl, ?_⟩) (by assumption) ?_
    rotate_left
    · intro w hSw; (try dsimp only at hSw); go_simp; try with_reducible rfl
    try simp only [Act.put, List.setIfInBounds_toArray, List.set_cons_zero, List.set_cons_succ]
    refine wpAnyH_done (by kernel_rfl) ?_ _
    clear hHeld HSV hi122 hold122 hone122
    obtain ⟨tb, htb⟩ : ∃ tb, tb = w2.heap.size := ⟨_, rfl⟩
    rw [← htb] at KF
    have g0 : Wf.cell? ⟨tb, 0, none⟩ = some (.int .i64 (verD D n)) := cell_of' KF.out rfl
    have htl : tb < Wf.heap.size := blk_lt KF.out
    simp only [← htb]
    clear htb
    have EWf : Hid (Ext nob w Wf) := (HW.out.trans' G2.out).trans' EF.out
    have d2 := EWf.out.cell (cells3 H.out.1).2.2.1 (fun h => h)
    have hlf := Nat.lt_of_lt_of_le hlw EF.out.size
    have hlen := (H.out.2.1.ext EWf.out (fun h => h)).len
    by_cases hle : v ≤ verD D n
    · have HLE := Lib.hid hle
      go_wp2_with fail
      go_ret
      have hE : noteE D n v env = 0 := by unfold noteE; rw [HJ.out, if_neg (by decide), if_pos HLE.out]
      have hD : noteD D n v env = D := by unfold noteD; rw [if_neg (fun h => by have h1 := h.2.1; have h2 := HLE.out; omega)]
      rw [hE, hD]
      exact ⟨rfl, H.out.ext EWf.out (fun h => h) (fun h => h), EWf.out.nob⟩
    by_cases hfull : hasD D n = false ∧ Maps.size D = 64
    · have HLE := Lib.hid hle
      have HF := Lib.hid hfull
      have q1 : hasD D n = false := hfull.1
      have q2 : ((Maps.size D : Int) == 64) = true := by simp [hfull.2]
      clear hfull
      go_wp2_with fail
      go_ret
      have hE : noteE D n v env = 5 := by unfold noteE; rw [HJ.out, if_neg (by decide), if_neg (show ¬ v ≤ verD D n by have := HLE.out; omega), if_pos HF.out]
      have hD : noteD D n v env = D := by unfold noteD; rw [if_neg (fun h => h.2.2 HF.out)]
      rw [hE, hD]
      exact ⟨rfl, H.out.ext EWf.out (fun h => h) (fun h => h), EWf.out.nob⟩
    have HLE := Lib.hid hle
    have hcase : hasD D n = true ∨ (hasD D n = false ∧ ((Maps.size D : Int) == 64) = false) := by
      by_cases hh : hasD D n = true
      · exact .inl hh
      · have hh' : hasD D n = false := by simpa using hh
        refine .inr ⟨hh', ?_⟩
        have : Maps.size D ≠ 64 := fun e => hfull ⟨hh', e⟩
        simp; omega
    obtain ⟨SH, hSH⟩ : ∃ SH, SH = ((shaB env).map byt).toArray := ⟨_, rfl⟩
    have hbd : ∀ w, (Instr.build 122 #[(0, .int .i64 v), (1, .agg SH)]).run Tryd.prog w = .ok (seenV v (shaB env)) w := fun w => by rw [hSH]; exact build_seen v (digest_len _ 32) w
    have HBD := Lib.hid hbd
    have HSH := Lib.hid hSH
    clear hbd
    have HFU := Lib.hid hfull
    have HS9 : Hid (∀ w', Ext nob Wf w' → (fun w' => w'.rangeAt nb 0 (n.map byt) ∧ w'.cell? ⟨p, 2, none⟩ = some (.map (some b))) w') := fun w' e => ⟨fun j v hj => cell_of' (((G2.out.trans' EF.out).trans' e).blk KN.out (fun h => h)) (by rw [Nat.zero_add]; simpa using hj), e.cell d2 (fun h => h)⟩
    clear hfull hSH hle
    rcases hcase with q1 | ⟨q1, q2⟩
    all_goals (
      go_wp2_with fail
      refine wp_region_held_drew (S := (fun w' => w'.rangeAt nb 0 (n.map byt) ∧ w'.cell? ⟨p, 2, none⟩ = some (.map (some b)))) (by kernel_rfl) (HS9.out _ (Ext.refl nob Wf).drew) (fun hHeld => ?_)
      refine wpAnyH_take (i := 0) (v := ?_) rfl (by kernel_rfl) (by kernel_rfl) (by kernel_rfl) (fun _ _ _ h => h) (Or.inl ⟨by rfl, ?_⟩) (by assumption) ?_
      rotate_left
      · intro w hSw; (try dsimp only at hSw); go_simp; try with_reducible rfl
      try simp only [Act.put, List.setIfInBounds_toArray, List.set_cons_zero, List.set_cons_succ]
      refine wpAnyH_take (i := 1) (v := ?_) rfl (by kernel_rfl) (by kernel_rfl) (by kernel_rfl) (fun _ _ _ h => h) (Or.inl ⟨by rfl, ?_⟩) (by assumption) ?_
      rotate_left
      · intro w hSw; (try dsimp only at hSw); go_simp; try with_reducible rfl
      try simp only [Act.put, List.setIfInBounds_toArray, List.set_cons_zero, List.set_cons_succ]
      refine wpAnyH_take (i := 2) (v := ?_) rfl (by kernel_rfl) (by kernel_rfl) (by kernel_rfl) (fun _ _ _ h => h) (Or.inl ⟨by rfl, ?_⟩) (by assumption) ?_
      rotate_left
      · intro w hSw; (try dsimp only at hSw); go_simp; try with_reducible rfl
      try simp only [Act.put, List.setIfInBounds_toArray, List.set_cons_zero, List.set_cons_succ]
      refine wpAnyH_take (i := 3) (v := ?_) rfl (by kernel_rfl) (by kernel_rfl) (by kernel_rfl) (fun _ _ _ h => h) (Or.inl ⟨by rfl, ?_⟩) (by assumption) ?_
      rotate_left
      · intro w hSw; (try dsimp only at hSw); go_simp; try with_reducible rfl
      try simp only [Act.put, List.setIfInBounds_toArray, List.set_cons_zero, List.set_cons_succ]
      refine wpAnyH_take (i := 4) (v := .agg (n.map byt).toArray) rfl (by kernel_rfl) (by kernel_rfl) (by kernel_rfl) (fun _ _ _ h => h) (yieldsIf_load_mid (by rfl) 60 (.tmp 5) rfl nb 0 rfl (n.map byt) _ (fun w hSw => hSw.1) hu60 rfl hi60') (by assumption) ?_
      try simp only [Act.put, List.setIfInBounds_toArray, List.set_cons_zero, List.set_cons_succ]
      refine wpAnyH_take (i := 5) (v := ?_) rfl (by kernel_rfl) (by kernel_rfl) (by kernel_rfl) (fun _ _ _ h => h) (Or.inl ⟨by rfl, ?_⟩) (by assumption) ?_
      rotate_left
      · intro w hSw; (try dsimp only at hSw); go_simp; try with_reducible rfl
      try simp only [Act.put, List.setIfInBounds_toArray, List.set_cons_zero, List.set_cons_succ]
      refine wpAnyH_take (i := 6) (v := ?_) rfl (by kernel_rfl) (by kernel_rfl) (by kernel_rfl) (fun _ _ _ h => h) (Or.inl ⟨by rfl, ?_⟩) (by assumption) ?_
      rotate_left
      · intro w hSw; (try dsimp only at hSw); go_simp; try with_reducible rfl
      try simp only [Act.put, List.setIfInBounds_toArray, List.set_cons_zero, List.set_cons_succ]
      refine wpAnyH_ready (rs := [7]) (by kernel_rfl) (by simp) ?_
      refine AllReadyH.cons rfl (fun K hK => ?_) AllReadyH.nil
      go_simp
      go_at_call 28
      refine (sha_ok ao m c env _ ((HB.out.ext EWf.out (fun _ _ h => h)).ext ((Ext.refl nob Wf).drew) (fun _ _ h => h)) ((HG.out.ext EWf.out (fun h => h) (fun h => h)).ext ((Ext.refl nob Wf).drew) (fun h => h) (fun h => h)) HM.out).mono ?_
      rw [← HSH.out]
      rintro e w3 ⟨rfl, g3⟩
      have EG : Hid (Ext nob Wf w3) := Ext.undrew g3
      clear g3
      go_wp2_with fail
      refine hK.out _ _ (HS9.out _ EG.out) (fun hHeld => ?_)
      clear hK K
      try simp only [Act.put, List.setIfInBounds_toArray, List.set_cons_zero, List.set_cons_succ]
      refine wpAnyH_take (i := 8) (v := seenV v (shaB env)) rfl (by kernel_rfl) (by kernel_rfl) (by kernel_rfl) (fun _ _ _ h => h) (Or.inl ⟨by rfl, fun w _ => exec_build (x := .tmp 50) (y := .tmp 52) rfl rfl rfl (HBD.out w)⟩) (by assumption) ?_
      try simp only [Act.put, List.setIfInBounds_toArray, List.set_cons_zero, List.set_cons_succ]
      refine wpAnyH_ready (rs := [9]) (by kernel_rfl) (by simp) ?_
      refine AllReadyH.cons rfl (fun K hK => ?_) AllReadyH.nil
      have EW3 : Hid (Ext nob w w3) := EWf.out.trans' EG.out
      obtain ⟨w4, hput, hn4, he4⟩ := (H.out.2.1.ext EW3.out (fun h => h)).put (by have := HS.out; omega) hn v (d := shaB env) (digest_len _ 32)
      have HN4 := Lib.hid hn4
      have HE4 : Hid (Ext (fun k => k = b) w w4) := EW3.out.nob.trans' he4
      have HP4 := Lib.hid (HE4.out.blk H.out.1 (fun h => H.out.2.2 h.symm))
      have HS4 : Hid ((fun w' => w'.rangeAt nb 0 (n.map byt) ∧ w'.cell? ⟨p, 2, none⟩ = some (.map (some b))) w4) := ⟨fun j u hj => he4.cell (hHeld.1 j u hj) (fun h => by have h1 := H.out.2.1.lt; have h2 := nbn.out; have h3 : nb = b := h; omega), he4.cell hHeld.2 (fun h => H.out.2.2 h.symm)⟩
      clear hn4 he4
      go_simp
      refine hK.out _ _ HS4.out (fun _ => ?_)
      clear hK K
      try simp only [Act.put, List.setIfInBounds_toArray, List.set_cons_zero, List.set_cons_succ]
      refine wpAnyH_done (by kernel_rfl) ?_ _
      go_wp2_with fail
      go_ret
      have hE : noteE D n v env = 0 := by unfold noteE; rw [HJ.out, if_neg (by decide), if_neg (show ¬ v ≤ verD D n by have := HLE.out; omega), if_neg HFU.out]
      have hD : noteD D n v env = putD D n v (shaB env) := by unfold noteD; rw [if_pos ⟨HJ.out, (show verD D n < v by have := HLE.out; omega), HFU.out⟩]
      rw [hE, hD]
      exact ⟨rfl, ⟨HP4.out, HN4.out, H.out.2.2⟩, HE4.out⟩)
  · have hne : (((judgeE D n v env : Nat) : Int) != 0) = true := by simp; omega
    have HJ := Lib.hid hj
    clear hj
    refine (mjudge_ok p b life epoch D n hn v ao m c env _ (H.out.ext HW.out (fun h => h) (fun h => h)) (HB.out.ext HW.out (fun _ _ h => h)) HM.out (HG.out.ext HW.out (fun h => h) (fun h => h))).mono ?_
    rintro e w2 ⟨rfl, g2⟩
    have G2 := Lib.hid g2
    clear g2
    go_wp2_with fail
    go_ret
    have hE : noteE D n v env = judgeE D n v env := by unfold noteE; rw [if_pos HJ.out]
    have hD : noteD D n v env = D := by unfold noteD; rw [if_neg (fun h => HJ.out h.1)]
    rw [hE, hD]
    have he := HW.out.trans' G2.out
    exact ⟨rfl, H.out.ext he (fun h => h) (fun h => h), he.nob⟩
end Go.Proofs.YtfgfhfmhadondaaDoor
