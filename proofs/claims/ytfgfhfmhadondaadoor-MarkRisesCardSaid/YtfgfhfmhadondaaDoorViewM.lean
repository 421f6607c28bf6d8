/- view: Many (a range over a function). -/
import Derived.Test.YtfgfhfmhadondaaDoorView3
import Derived.RangeFuncNested
import Derived.RangeFuncBound
import Derived.RangeFuncCalls
import Derived.RangeFuncLeaves
import Derived.Shelf.Abstract
import Derived.Shelf.RegionOpen
import Derived.OwnWalkIn
import Derived.TacticsInMore
import Derived.LoopNIn
import Derived.LoopIn
namespace Go.Proofs.YtfgfhfmhadondaaDoor
open Go.RowKit
set_option maxHeartbeats 400000
attribute [local go_sem] Oper.semAt_some

theorem ext_grew {w w' : World} (h : Ext nob w w') : w.grownBy w' none :=
  ⟨h.os, h.tape, h.output, h.size, fun k hk _ => h.block k hk (fun h => h)⟩

theorem below_ext {B : Nat} {w w' : World} (h : Below B w w') : Ext (fun k => B ≤ k) w w' := ⟨h.os, h.tape, h.output, h.size, fun k _ hf => h.block k (by omega)⟩

theorem many1_ok (s nd k : Int) (ao : Option Addr) (n c : Nat) (B0 : Nat) (node : Int) (w : World) (hb : w.cell? ⟨B0, 0, none⟩ = some (.int .i64 node)) (hl : B0 < w.heap.size) :
    Calls Tryd.prog 110 #[rowV s nd k ao n c, .pointer (some ⟨B0, 0, none⟩)] w fun e w' => e = .returned (.bool (nd == node)) ∧ Ext nob w w' := by
  go_enter Tryd.func110, Tryd.ntmps110
  go_wp2_with fail
  go_ret
  exact ⟨rfl, (Ext.refl _ w).alloc _⟩

/-- A row that may be, as it is handed over. -/
abbrev RowA := { x : RowV // mayS x.row = true }
abbrev encR (x : RowA) : Array Value := #[rowV x.1.row.step x.1.row.node x.1.row.kind x.1.ao x.1.n x.1.cap]

def rowsA (l : List RowA) : List RowS := l.map fun y => y.1.row
theorem rowsA_snoc (l : List RowA) (x : RowA) : rowsA (l ++ [x]) = rowsA l ++ [x.1.row] := by simp [rowsA]

set_option maxRecDepth 20000 in
set_option maxHeartbeats 2000000 in
theorem chosenM_in (n : Nat) (l B0 B1 B2 : Nat) (G : Nat → Prop) (node : Int) (ao : Option Addr) (cap : Nat) (xs : List RowV) (hmay : ∀ x ∈ xs, mayS x.row = true) (hn : xs.length ≤ 20000) (J Jx : List RowA → World → Prop)
    (hY : ∀ pre (x : RowA) W, J pre W → pre.length < 20000 → YieldAt Fence.wide (n - 1) Tryd.prog l (encR x) W fun e W' =>
      (e = .returned (.bool true) ∧ J (pre ++ [x]) W' ∧ Ext G W W') ∨ (e = .returned (.bool false) ∧ Jx (pre ++ [x]) W'))
    (W : World) (hJ : AbidesFrom W.heap.size J) (h0 : J [] W)
    (b0 : W.cell? ⟨B0, 0, none⟩ = some (.int .i64 node)) (b10 : W.cell? ⟨B1, 0, none⟩ = some (.slice ao xs.length cap)) (b11 : W.cell? ⟨B1, 1, none⟩ = some (.func (.func 107) #[] #[]))
    (b2 : W.cell? ⟨B2, 0, none⟩ = some (.func (.func 110) #[] #[.pointer (some ⟨B0, 0, none⟩)])) (hB0 : ¬ G B0) (hB1 : ¬ G B1) (hB2 : ¬ G B2) (hl0 : B0 < W.heap.size) (hl1 : B1 < W.heap.size) (hl2 : B2 < W.heap.size)
    (hr : Rd W ao (xs.flatMap RowV.cells)) (hro : ∀ k, inA ao k → ¬ G k) (hb : ∀ r ∈ xs, Bytes W r.ao r.n r.row.b ∧ r.n ≤ big) (hbo : ∀ r ∈ xs, ∀ k, inA r.ao k → ¬ G k) :
    CallsIn Fence.wide n Tryd.prog 135 #[.func (.yield l) #[] #[], .pointer (some ⟨B1, 0, none⟩), .pointer (some ⟨B2, 0, none⟩)] W fun e W' => (∃ v, e = .returned v) ∧
      ((∃ ys : List RowA, rowsA ys = (xs.map RowV.row).filter (fun r => r.node == node) ∧ J ys W') ∨ (∃ pre, Jx pre W')) := by
  refine callsIn_of_wp Tryd.func135 rfl trivial ?_ rfl
  simp only [Tryd.ntmps135, List.size_toArray, List.length_cons, List.length_nil, Nat.reduceAdd, Nat.reduceSub, Array.replicate_succ, Array.replicate_zero, List.push_toArray, List.append_toArray, List.nil_append, List.cons_append]
  gi_wp2
  gi_loopw [9] (fun i wr => ∃ (k : Nat) (pre : List RowA), i = .int .i64 (k : Int) ∧ k ≤ xs.length ∧ rowsA pre = ((xs.map RowV.row).take k).filter (fun r => r.node == node) ∧ J pre wr ∧ Ext G W wr) (fun i _ => xs.length - (intOf i).toNat)
  case atStart => exact ⟨0, [], rfl, by omega, rfl, h0, Ext.refl _ _⟩
  case round =>
    obtain ⟨k, pre, rfl, hk, hp, hj, he⟩ := hrel
    have hE := he
    have hp1 : B1 < wr.heap.size := by have := he.size; omega
    have hp2 : B2 < wr.heap.size := by have := he.size; omega
    have hp0 : B0 < wr.heap.size := by have := he.size; omega
    have d0 := hE.cell b0 hB0
    have d10 := hE.cell b10 hB1
    have d11 := hE.cell b11 hB1
    have d2 := hE.cell b2 hB2
    have x2 := hr.ext hE hro
    have HJ := Lib.hid hJ
    have HY := Lib.hid hY
    have HP := Lib.hid hp
    have HE := Lib.hid he
    have HB := Lib.hid hb
    have HBO := Lib.hid hbo
    have HR := Lib.hid hr
    have HRO := Lib.hid hro
    have HM := Lib.hid hmay
    have hWr : Hid (W.heap.size ≤ wr.heap.size) := he.size
    clear hJ hY hp he hb hbo hr hro hmay hE b0 b10 b11 b2
    by_cases hkn : k < xs.length
    · have hki : (k : Int) < xs.length := by omega
      obtain ⟨r, hr⟩ : ∃ r, xs[k]? = some r := ⟨xs[k], List.getElem?_eq_getElem _⟩
      obtain ⟨g, o, rfl⟩ := x2.addr (fun h => by have := cells_len xs; rw [h] at this; simp at this; omega)
      obtain ⟨r0, r1, r2, r3⟩ := row_cells x2 k r hr
      have hgr : g < wr.heap.size := World.block_lt_of_cell? wr _ r0
      have hmem := List.mem_of_getElem? hr
      have RB : Hid (Bytes wr r.ao r.n r.row.b) := (HB.out r hmem).1.ext HE.out (HBO.out r hmem)
      have RN : Hid (r.n ≤ big) := (HB.out r hmem).2
      have RM : Hid (mayS r.row = true) := HM.out r hmem
      have hl1 : (xs.map RowV.row).take (k + 1) = (xs.map RowV.row).take k ++ [r.row] := by rw [List.take_add_one, List.getElem?_map, hr]; rfl
      have HL := Lib.hid hl1
      clear x2 hr hmem hl1
      by_cases hnode : r.row.node == node
      · have HL2 : Hid (((xs.map RowV.row).take (k + 1)).filter (fun r => r.node == node) = ((xs.map RowV.row).take k).filter (fun r => r.node == node) ++ [r.row]) := by show _ = _; rw [HL.out, List.filter_append]; simp [hnode]
        have hnode' : (r.row.node == node) = true := hnode
        gi_wp2
        refine ⟨trivial, (fun h => by cases h), ?_⟩
        refine (callsIn_wide.2 (many1_ok r.row.step r.row.node r.row.kind r.ao r.n r.cap B0 node _ ((((Ext.refl nob wr).alloc _)).cell d0 (fun h => h)) (by simp; omega))).mono ?_
        rintro e w2 ⟨rfl, e2⟩
        rw [hnode']
        have hbx := e2.blk (blk_new wr _) (fun h => h)
        obtain ⟨t0, t1, t2, t3, -, -, -, -, htl⟩ := cells4 hbx
        have E2 : Hid (Ext nob wr w2) := ((Ext.refl nob wr).alloc _).trans' e2
        have f0 := E2.out.cell d0 (fun h => h)
        have f11 := E2.out.cell d11 (fun h => h)
        clear hbx e2 d0 hnode
        gi_wp2
        refine ⟨trivial, (fun h => by cases h), ?_⟩
        refine (callsIn_wide.2 (copied_ok r.row.step r.row.node r.row.kind r.ao r.n r.cap r.row.b w2 (RB.out.ext E2.out (fun _ _ h => h)) RN.out)).mono ?_
        rintro e w3 ⟨ao', c', rfl, -, e3, -, -⟩
        have E3 : Hid (Ext nob wr w3) := E2.out.trans' e3
        have hlen : pre.length < 20000 := by
          have h1 := congrArg List.length HP.out
          rw [rowsA, List.length_map] at h1
          have h2 := List.length_filter_le (fun r : RowS => r.node == node) ((xs.map RowV.row).take k)
          simp at h1 h2; omega
        obtain ⟨fn, tmps, assign, body, hy, hR⟩ := HY.out pre ⟨⟨r.row, ao', r.n, c'⟩, RM.out⟩ w3 (HJ.out pre wr w3 none hj (ext_grew E3.out) (fun _ h => by cases h)) hlen
        dsimp only [encR] at hy
        clear e3 f0 f11 t0 t1 t2 t3 hlen
        gi_wp2
        refine ⟨(fun h => by cases h), ?_⟩
        refine hR.mono ?_
        rintro e W' (⟨rfl, hJ', hk'⟩ | ⟨rfl, hJx'⟩)
        · have HJ' := Lib.hid hJ'
          have HK' : Hid (Ext G W W') := HE.out.trans' (E3.out.nob.trans' hk')
          clear hJ' hk' hR hy
          gi_wp2
          go_roundw
          case rel => exact ⟨k + 1, pre ++ [⟨⟨r.row, ao', r.n, c'⟩, RM.out⟩], by go_num, by omega, by rw [HL2.out, rowsA_snoc, HP.out], HJ'.out, HK'.out⟩
          case measure => simp [intOf]; omega
        · have HX := Lib.hid hJx'
          clear hR hy hJx'
          gi_wp2
          refine bodyPost_ret (results_none rfl _ _ _) rfl ?_
          exact ⟨⟨_, rfl⟩, .inr ⟨_, HX.out⟩⟩
      · have HL2 : Hid (((xs.map RowV.row).take (k + 1)).filter (fun r => r.node == node) = ((xs.map RowV.row).take k).filter (fun r => r.node == node)) := by show _ = _; rw [HL.out, List.filter_append]; simp [hnode]
        have hnode' : (r.row.node == node) = false := by simpa using hnode
        gi_wp2
        refine ⟨trivial, (fun h => by cases h), ?_⟩
        refine (callsIn_wide.2 (many1_ok r.row.step r.row.node r.row.kind r.ao r.n r.cap B0 node _ ((((Ext.refl nob wr).alloc _)).cell d0 (fun h => h)) (by simp; omega))).mono ?_
        rintro e w2 ⟨rfl, e2⟩
        rw [hnode']
        have E2 : Hid (Ext nob wr w2) := ((Ext.refl nob wr).alloc _).trans' e2
        have HK' : Hid (Ext G W w2) := HE.out.trans' E2.out.nob
        have HJ' : Hid (J pre w2) := HJ.out pre wr w2 none hj (ext_grew E2.out) (fun _ h => by cases h)
        clear e2 d0 hnode
        gi_wp2
        refine ⟨fun _ h => (by cases h), ?_⟩
        gi_wp2
        go_roundw
        case rel => exact ⟨k + 1, pre, by go_num, by omega, by rw [HL2.out, HP.out], HJ'.out, HK'.out⟩
        case measure => simp [intOf]; omega
    · have hki : ¬ (k : Int) < xs.length := by omega
      have hke : k = xs.length := by omega
      have HF : Hid (rowsA pre = (xs.map RowV.row).filter (fun r => r.node == node)) := by
        show _ = _
        rw [HP.out, hke, List.take_of_length_le (by simp)]
      clear hke
      gi_wp2
      go_end0
      exact ⟨⟨_, rfl⟩, .inl ⟨pre, HF.out, hj⟩⟩

theorem cell_of {w : World} {g : Nat} {c : Array Value} {T : TypeId} {f : Nat × Nat} (h : w.heap[g]? = some (.cells c T f)) {i : Nat} {v : Value} (hi : c[i]? = some v) : w.cell? ⟨g, i, none⟩ = some v := by
  simp [World.cell?, h, hi]

theorem chosen_ok (sl is : Value) (w : World) :
    Calls Tryd.prog 109 #[.agg #[sl, .func (.func 107) #[] #[]], .func (.func 110) #[] #[is]] w fun e w' =>
      e = .returned (.func (.func 135) #[] #[.pointer (some ⟨w.heap.size, 0, none⟩), .pointer (some ⟨w.heap.size + 1, 0, none⟩)]) ∧
      w' = (w.alloc (.cells #[sl, .func (.func 107) #[] #[]] 92)).alloc (.cells #[.func (.func 110) #[] #[is]] 107) := by
  go_enter Tryd.func109, Tryd.ntmps109
  go_wp2_with fail
  go_ret
  exact ⟨rfl, rfl⟩

def kindN (L : List RowS) (k : Int) : Nat := (L.filter (fun r => r.kind == k)).length

theorem kindN_le (L : List RowS) (k : Int) : kindN L k ≤ L.length := List.length_filter_le _ _
theorem kindN_snoc (L : List RowS) (r : RowS) (k : Int) : kindN (L ++ [r]) k = kindN L k + if r.kind == k then 1 else 0 := by
  simp only [kindN, List.filter_append, List.length_append]
  congr 1
  by_cases h : (r.kind == k) = true
  · rw [if_pos h]; simp [List.filter, h]
  · rw [if_neg h]; simp [List.filter, h]

set_option maxRecDepth 20000 in
set_option maxHeartbeats 2000000 in
theorem vmany_ok (p : Nat) (L : List RowS) (F : Nat → Prop) (node : Int) (w : World) (hv : ViewAt w p L F) (hm : ∀ r ∈ L, mayS r = true) (hL : L.length ≤ 20000) :
    Calls Tryd.prog 51 #[.pointer (some ⟨p, 0, none⟩), .int .i64 node] w fun e w' =>
      e = .returned (.agg #[.int .i64 (kindN (L.filter (fun r => r.node == node)) 1 : Nat), .int .i64 (kindN (L.filter (fun r => r.node == node)) 2 : Nat), .int .i64 (kindN (L.filter (fun r => r.node == node)) 3 : Nat)]) ∧ Ext nob w w' := by
  refine (callsIn_wide (n := 3)).1 ?_
  refine callsIn_of_wp_marks Tryd.func51 rfl trivial ?_ rfl
  simp only [Tryd.ntmps51, List.size_toArray, List.length_cons, List.length_nil, Nat.reduceAdd, Nat.reduceSub, Array.replicate_succ, Array.replicate_zero, List.push_toArray, List.append_toArray, List.nil_append, List.cons_append]
  have hlt : p < w.heap.size := by obtain ⟨v, xs, h1, -⟩ := hv; exact blk_lt h1
  have HV := Lib.hid hv
  have HM := Lib.hid hm
  have HL := Lib.hid hL
  clear hv hm hL
  gi_wp2
  refine ⟨trivial, ?_⟩
  refine (callsIn_wide.2 (none_ok p L F _ ((HV.out.ext ((Ext.refl nob w).alloc _) (fun _ _ h => h)).ext ((Ext.refl nob _).alloc _) (fun _ _ h => h)))).mono ?_
  rintro e w1 ⟨rfl, rfl⟩
  obtain ⟨v, xs, h1, h2, h3, h4, h5, h6, h7, h8⟩ := HV.out
  have hx : xs.length = L.length := by rw [← h3, List.length_map]
  obtain ⟨ao, cap, rfl, q1, q2, q3, q4⟩ := Own.shape h2
  obtain ⟨c0, c1, f0, f1, hl⟩ := cells2 h1
  have H3 := Lib.hid h3
  have H4 := Lib.hid h4
  have H6 := Lib.hid (fun k hk => (h6 k (q4 k hk)).1)
  have H7 := Lib.hid h7
  have H8 := Lib.hid h8
  have Q1 := Lib.hid q1
  have HX := Lib.hid hx
  clear h1 h2 h3 h4 h6 h7 h8 q1 q2 q4 f0 f1 hx
  gi_wp2
  refine ⟨trivial, ?_⟩
  refine (callsIn_wide.2 (chosen_ok _ _ _)).mono ?_
  rintro e w1 ⟨rfl, rfl⟩
  simp only [World.size_alloc]
  obtain ⟨W0, hW0⟩ : ∃ W0, W0 = (((w.alloc (.cells #[.int .i64 node] 3)).alloc (.cells #[.int .i64 0, .int .i64 0, .int .i64 0] 56)).alloc (.cells #[.slice ao xs.length cap, .func (.func 107) #[] #[]] 92)).alloc (.cells #[.func (.func 110) #[] #[.pointer (some ⟨w.heap.size, 0, none⟩)]] 107) := ⟨_, rfl⟩
  have hsz : W0.heap.size = w.heap.size + 4 := by rw [hW0]; simp
  have k0 : W0.heap[w.heap.size]? = some (.cells #[.int .i64 node] 3) := by rw [hW0]; exact blk_alloc (blk_alloc (blk_alloc (blk_new w _) _) _) _
  have k1 : W0.heap[w.heap.size + 1]? = some (.cells #[.int .i64 0, .int .i64 0, .int .i64 0] 56) := by
    rw [hW0]; refine blk_alloc (blk_alloc ?_ _) _
    have := blk_new (w.alloc (.cells #[.int .i64 node] 3)) (.cells #[.int .i64 0, .int .i64 0, .int .i64 0] 56)
    rwa [World.size_alloc] at this
  have k2 : W0.heap[w.heap.size + 2]? = some (.cells #[.slice ao xs.length cap, .func (.func 107) #[] #[]] 92) := by
    rw [hW0]; refine blk_alloc ?_ _
    have := blk_new ((w.alloc (.cells #[.int .i64 node] 3)).alloc (.cells #[.int .i64 0, .int .i64 0, .int .i64 0] 56)) (.cells #[.slice ao xs.length cap, .func (.func 107) #[] #[]] 92)
    rwa [World.size_alloc, World.size_alloc] at this
  have k3 : W0.heap[w.heap.size + 3]? = some (.cells #[.func (.func 110) #[] #[.pointer (some ⟨w.heap.size, 0, none⟩)]] 107) := by
    rw [hW0]
    have := blk_new (((w.alloc (.cells #[.int .i64 node] 3)).alloc (.cells #[.int .i64 0, .int .i64 0, .int .i64 0] 56)).alloc (.cells #[.slice ao xs.length cap, .func (.func 107) #[] #[]] 92)) (.cells #[.func (.func 110) #[] #[.pointer (some ⟨w.heap.size, 0, none⟩)]] 107)
    rwa [World.size_alloc, World.size_alloc, World.size_alloc] at this
  have hE0 : Ext nob w W0 := by rw [hW0]; exact ((((Ext.refl nob w).alloc _).alloc _).alloc _).alloc _
  rw [← hW0]
  have K0 := Lib.hid k0
  have K1 := Lib.hid k1
  have K2 := Lib.hid k2
  have K3 := Lib.hid k3
  have HE0 := Lib.hid hE0
  have HSZ := Lib.hid hsz
  clear hW0 k0 k1 k2 k3 hE0 hsz c0 c1
  gi_wp2
  have hseq : SeqStopsK Fence.wide 2 Tryd.prog 135 #[.pointer (some ⟨w.heap.size + 1 + 1, 0, none⟩), .pointer (some ⟨w.heap.size + 1 + 1 + 1, 0, none⟩)] encR (Ext (fun k => k = w.heap.size + 1 ∨ W0.heap.size ≤ k))
      (fun ys => rowsA ys = (xs.map RowV.row).filter (fun r => r.node == node)) (fun _ => True) 20000 W0 := fun l J Jx W hW hJ hJx hY h0 => by
    have hE : Ext (fun k => W0.heap.size ≤ k) W0 W := below_ext hW
    have hz := HSZ.out
    have hsw := hE.size
    have e0 := hE.blk K0.out (by omega)
    have e2 := hE.blk K2.out (by omega)
    have e3 := hE.blk K3.out (by omega)
    have hG : ∀ k, F k → ¬ (k = w.heap.size + 1 ∨ W0.heap.size ≤ k) := fun k hk h => by have := H8.out k hk; omega
    have hG' : ∀ k, F k → ¬ (W0.heap.size ≤ k) := fun k hk h => by have := H8.out k hk; omega
    refine (chosenM_in 2 l w.heap.size (w.heap.size + 1 + 1) (w.heap.size + 1 + 1 + 1) (fun k => k = w.heap.size + 1 ∨ W0.heap.size ≤ k) node ao cap xs (fun x hx => HM.out _ (by rw [← H3.out]; exact List.mem_map_of_mem hx)) (by rw [HX.out]; exact HL.out) J Jx hY W hJ h0
      (cell_of e0 rfl) (cell_of e2 rfl) (cell_of e2 rfl) (cell_of e3 rfl) (by omega) (by omega) (by omega) (blk_lt e0) (blk_lt e2) (blk_lt e3)
      ((Q1.out.ext HE0.out (fun _ _ h => h)).ext hE (fun k hk => hG' k (H6.out k hk))) (fun k hk => hG k (H6.out k hk))
      (fun r hr => ⟨((H4.out r hr).1.ext HE0.out (fun _ _ h => h)).ext hE (fun k hk => hG' k (H7.out r hr k hk).1), ?_⟩) (fun r hr k hk => hG k (H7.out r hr k hk).1)).mono ?_
    · have := (mayS_iff r.row).1 (HM.out _ (by rw [← H3.out]; exact List.mem_map_of_mem hr))
      rw [← (H4.out r hr).1.1]; unfold big; omega
    · rintro e W' ⟨h1, h2⟩
      refine ⟨h1, ?_⟩
      rcases h2 with ⟨ys, h2, h3⟩ | ⟨pre, h2⟩
      · exact .inl ⟨ys, h2, h3⟩
      · exact .inr ⟨pre, trivial, h2⟩
  have HSEQ := Lib.hid hseq
  clear hseq
  refine wpIn_rangeFunc_ownH rfl (by decide) (gf := 135) (lb := #[.pointer (some ⟨w.heap.size + 1 + 1, 0, none⟩), .pointer (some ⟨w.heap.size + 1 + 1 + 1, 0, none⟩)]) rfl trivial (enters_of Tryd.func135 (by kernel_rfl) rfl)
    HSEQ.out (fun h k => h.trans' k) (fun W l o o' hl _ _ _ => ⟨rfl, rfl, rfl, by simp, fun k _ hf => World.putObj_heap_other (fun e => hf (.inr (by omega)))⟩) (Below.refl _ _) (fun _ => rfl)
    (fun pre W => W.heap[w.heap.size + 1]? = some (.cells #[.int .i64 (kindN (rowsA pre) 1 : Nat), .int .i64 (kindN (rowsA pre) 2 : Nat), .int .i64 (kindN (rowsA pre) 3 : Nat)] 56 (0, 0)) ∧ Ext nob w W ∧ W0.heap.size ≤ W.heap.size)
    (fun _ _ _ => False) ?hI (fun _ _ _ _ _ hs _ _ => hs) ⟨K1.out, HE0.out, Nat.le_refl _⟩
    (fun x a' W => ∃ Bx, W0.heap.size ≤ Bx ∧ W.heap[Bx]? = some (.cells #[.int .i64 x.1.row.step, .int .i64 x.1.row.node, .int .i64 x.1.row.kind, .slice x.1.ao x.1.n x.1.cap] 34 (0, 0)) ∧ a' = { tmps := #[.pointer (some ⟨p, 0, none⟩), .int .i64 node, undef, .pointer (some ⟨w.heap.size, 0, none⟩), .pointer (some ⟨w.heap.size + 1, 0, none⟩), .pointer (some ⟨Bx, 0, none⟩), .pointer (some ⟨p, 0, none⟩), .bool false, undef, .pointer (some ⟨p, 0, none⟩), .pointer (some ⟨p, 0, none⟩), .pointer (some ⟨p, 0, none⟩), .agg #[.slice ao xs.length cap, .func (.func 107) #[] #[]], .func (.func 110) #[] #[.pointer (some ⟨w.heap.size, 0, none⟩)], .func (.func 135) #[] #[.pointer (some ⟨w.heap.size + 1 + 1, 0, none⟩), .pointer (some ⟨w.heap.size + 1 + 1 + 1, 0, none⟩)], rowV x.1.row.step x.1.row.node x.1.row.kind x.1.ao x.1.n x.1.cap, undef, undef, undef, undef, undef, undef, undef, undef], defers := [] })
    ?hAx ?assign ?body ?done ?stop
  case hI =>
    rintro s A B row ⟨h1, h2, h3⟩ hg hr
    have hz := HSZ.out
    refine ⟨(hg.block _ (blk_lt h1) (fun e => by have := (hr _ e.symm).1; omega)).trans h1, h2.trans (Ext.grow hg) (fun i hi h => by have := (hr i h).1; omega), Nat.le_trans h3 hg.size⟩
  case hAx =>
    rintro x a' _ A B row ⟨Bx, h1, h2, h3⟩ hg hr
    refine ⟨Bx, h1, (hg.block _ (blk_lt h2) (fun e => ?_)).trans h2, h3⟩
    obtain ⟨-, o, ho, hc⟩ := hr _ e.symm
    rw [h2] at ho; cases ho; cases hc
  case assign =>
    intro l pre x W K hi hK
    gi_wp2
    exact hK _ _ ((KeepsOthers.alloc _ _).from _) ((Ext.refl _ W).alloc _) ⟨blk_alloc hi.1 _, hi.2.1.alloc _, by have := hi.2.2; simp; omega⟩ ⟨W.heap.size, hi.2.2, blk_new W _, rfl⟩
  case body =>
    rintro l pre x a' W hl ⟨r, hr⟩ ⟨h1, h2, h3⟩ ⟨Bx, hBx, hb, rfl⟩ hlen
    have hmx := (mayS_iff x.1.row).1 x.2
    have hz := HSZ.out
    have hle := fun k => kindN_le (rowsA pre) k
    have hpl : (rowsA pre).length = pre.length := by simp [rowsA]
    have hsn := fun k => kindN_snoc (rowsA pre) x.1.row k
    obtain ⟨n1, hn1⟩ : ∃ n1, n1 = kindN (rowsA pre) 1 := ⟨_, rfl⟩
    obtain ⟨n2, hn2⟩ : ∃ n2, n2 = kindN (rowsA pre) 2 := ⟨_, rfl⟩
    obtain ⟨n3, hn3⟩ : ∃ n3, n3 = kindN (rowsA pre) 3 := ⟨_, rfl⟩
    have b1 : n1 < 20000 := by have := hle 1; omega
    have b2 : n2 < 20000 := by have := hle 2; omega
    have b3 : n3 < 20000 := by have := hle 3; omega
    rw [← hn1, ← hn2, ← hn3] at h1
    obtain ⟨c0, c1, c2, f0, f1, f2, hO⟩ := cells3 h1
    have H1 := Lib.hid h1
    have H2 := Lib.hid h2
    have H3' := Lib.hid h3
    have HN := Lib.hid (And.intro hn1 (And.intro hn2 hn3))
    have HSN := Lib.hid hsn
    have HBX := Lib.hid hBx
    have E3 : ∀ v i, Ext (fun k => k = w.heap.size + 1 ∨ W0.heap.size ≤ k) W (W.setCell ⟨w.heap.size + 1, i, none⟩ v) := fun v i => (Ext.refl _ W).setCell _ _ (fun _ => .inl rfl)
    have E4 : ∀ v i, Ext nob w (W.setCell ⟨w.heap.size + 1, i, none⟩ v) := fun v i => h2.setCell _ _ (fun h => absurd h (by simp))
    have HE3 := Lib.hid E3
    have HE4 := Lib.hid E4
    obtain ⟨-, -, -, hk1, hk3, -⟩ := hmx
    clear h1 h2 h3 hn1 hn2 hn3 hsn hle hpl hBx hr hlen hl hz E3 E4
    have hk : x.1.row.kind = 1 ∨ x.1.row.kind = 2 ∨ x.1.row.kind = 3 := by omega
    rcases hk with hk | hk | hk
    · rw [hk] at hb
      obtain ⟨t0, t1, t2, t3, -, -, -, -, htl⟩ := cells4 hb
      have HK := Lib.hid hk
      clear hb hk hk1 hk3
      gi_wp2
      refine ⟨(KeepsOthers.setCell _ _ _).from _, HE3.out _ _, ?_, HE4.out _ _, by have := H3'.out; simp; omega⟩
      obtain ⟨q1, q2, q3⟩ := HN.out
      have := blk_set H1.out 0 (.int .i64 ((n1 : Int) + 1))
      rw [rowsA_snoc, HSN.out, HSN.out, HSN.out, HK.out, ← q1, ← q2, ← q3]
      simpa using this
    · rw [hk] at hb
      obtain ⟨t0, t1, t2, t3, -, -, -, -, htl⟩ := cells4 hb
      have HK := Lib.hid hk
      clear hb hk hk1 hk3
      gi_wp2
      refine ⟨(KeepsOthers.setCell _ _ _).from _, HE3.out _ _, ?_, HE4.out _ _, by have := H3'.out; simp; omega⟩
      obtain ⟨q1, q2, q3⟩ := HN.out
      have := blk_set H1.out 1 (.int .i64 ((n2 : Int) + 1))
      rw [rowsA_snoc, HSN.out, HSN.out, HSN.out, HK.out, ← q1, ← q2, ← q3]
      simpa using this
    · rw [hk] at hb
      obtain ⟨t0, t1, t2, t3, -, -, -, -, htl⟩ := cells4 hb
      have HK := Lib.hid hk
      clear hb hk hk1 hk3
      gi_wp2
      refine ⟨(KeepsOthers.setCell _ _ _).from _, HE3.out _ _, ?_, HE4.out _ _, by have := H3'.out; simp; omega⟩
      obtain ⟨q1, q2, q3⟩ := HN.out
      have := blk_set H1.out 2 (.int .i64 ((n3 : Int) + 1))
      rw [rowsA_snoc, HSN.out, HSN.out, HSN.out, HK.out, ← q1, ← q2, ← q3]
      simpa using this
  case done =>
    rintro D ys W hD hS ⟨h1, h2, h3⟩ hK
    have hS' : rowsA ys = L.filter (fun r => r.node == node) := by rw [hS, H3.out]
    rw [hS'] at h1
    have hz := HSZ.out
    have hOD : w.heap.size + 1 < W.heap.size := blk_lt h1
    obtain ⟨c0, c1, c2, f0, f1, f2, hO⟩ := cells3 h1
    have H1 := Lib.hid h1
    have H2 := Lib.hid h2
    have HK := Lib.hid hK
    clear h1 h2 hK hS hS'
    gi_wp2
    obtain ⟨n1, hn1⟩ : ∃ n1 : Value, n1 = .int .i64 (kindN (L.filter (fun r => r.node == node)) 1 : Nat) := ⟨_, rfl⟩
    obtain ⟨n2, hn2⟩ : ∃ n2 : Value, n2 = .int .i64 (kindN (L.filter (fun r => r.node == node)) 2 : Nat) := ⟨_, rfl⟩
    obtain ⟨n3, hn3⟩ : ∃ n3 : Value, n3 = .int .i64 (kindN (L.filter (fun r => r.node == node)) 3 : Nat) := ⟨_, rfl⟩
    have hd3 : ((((W.setCell ⟨w.heap.size + 1, 0, none⟩ n1).setCell ⟨w.heap.size + 1, 1, none⟩ n2).setCell ⟨w.heap.size + 1, 2, none⟩ n3)).heap[D]? = some (.deferred (some [])) := blk_far (blk_far (blk_far HK.out _ _ (by simp; omega)) _ _ (by simp; omega)) _ _ (by simp; omega)
    have ho3 : ((((W.setCell ⟨w.heap.size + 1, 0, none⟩ n1).setCell ⟨w.heap.size + 1, 1, none⟩ n2).setCell ⟨w.heap.size + 1, 2, none⟩ n3)).heap[w.heap.size + 1]? = some (.cells #[n1, n2, n3] 56 (0, 0)) := by
      have := blk_set (blk_set (blk_set H1.out 0 n1) 1 n2) 2 n3
      simpa using this
    have hE3 : Ext nob w ((((W.setCell ⟨w.heap.size + 1, 0, none⟩ n1).setCell ⟨w.heap.size + 1, 1, none⟩ n2).setCell ⟨w.heap.size + 1, 2, none⟩ n3)) := ((H2.out.setCell _ _ (fun h => absurd h (by simp))).setCell _ _ (fun h => absurd h (by simp))).setCell _ _ (fun h => absurd h (by simp))
    rw [← hn1, ← hn2, ← hn3]
    generalize ((((W.setCell ⟨w.heap.size + 1, 0, none⟩ n1).setCell ⟨w.heap.size + 1, 1, none⟩ n2).setCell ⟨w.heap.size + 1, 2, none⟩ n3)) = W3 at hd3 ho3 hE3 ⊢
    refine ⟨by simp, .inl ⟨_, _, rfl, run_takeDeferred hd3, ?_⟩⟩
    refine ⟨_, results_cell_row (p := 4) (ty := 56) rfl _ _ (w.heap.size + 1) 56 #[n1, n2, n3] (0, 0) _ rfl ((World.putObj_heap_other (by omega)).trans ho3) Tryd.underlying56 rfl (by kernel_rfl), ?_, ?_⟩
    · rfl
    · exact hE3.trans (G := fun k => k = D) ⟨rfl, rfl, rfl, by simp, fun k _ hf => World.putObj_heap_other hf⟩ (fun i hi e => by omega)
  case stop => 
    rintro D c pre W _ _ h _
    exact h.elim
end Go.Proofs.YtfgfhfmhadondaaDoor
