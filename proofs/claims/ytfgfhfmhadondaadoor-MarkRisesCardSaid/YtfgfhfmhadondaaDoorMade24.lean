/- sealchainlaw24.made: rows that may be, out of seeds. -/
import Derived.Test.YtfgfhfmhadondaaDoorPlain24
import Derived.Deep.RegionHeld3
import Derived.Deep.DeepCutAuto
namespace Go.Proofs.YtfgfhfmhadondaaDoor
open Go.RowKit
set_option maxHeartbeats 400000

/-- A []Seed that can be read. -/
def SeedsAt (w : World) (ao : Option Addr) (n : Nat) (xs : List RowV) : Prop := xs.length = n ∧ Rd w ao (xs.flatMap RowV.cells) ∧ ∀ r ∈ xs, Bytes w r.ao r.n r.row.b ∧ r.n ≤ r.cap
theorem SeedsAt.ext {F : Nat → Prop} {w w' : World} {ao : Option Addr} {n : Nat} {xs : List RowV} (h : SeedsAt w ao n xs) (e : Ext F w w') (hf : ∀ k, inA ao k → ¬ F k) (hg : ∀ r ∈ xs, ∀ k, inA r.ao k → ¬ F k) : SeedsAt w' ao n xs :=
  ⟨h.1, h.2.1.ext e hf, fun r hr => ⟨(h.2.2 r hr).1.ext e (hg r hr), (h.2.2 r hr).2⟩⟩

/-- The rows that made makes, with where their bytes lie: those of the seeds. -/
def madeVGo : Nat → List RowV → List RowV
  | _, [] => []
  | st, x :: t => ⟨seedRow ((st + (x.row.step % 3).toNat : Nat) : Int) x.row, x.ao, min x.n 100, x.cap⟩ :: madeVGo (st + (x.row.step % 3).toNat) t
def madeV (xs : List RowV) (most : Nat) : List RowV := madeVGo 0 (xs.take most)

theorem madeVGo_rows : ∀ (xs : List RowV) (st : Nat), (madeVGo st xs).map RowV.row = madeGo (st : Int) (xs.map RowV.row)
  | [], _ => rfl
  | x :: t, st => by
    have h : ((st + (x.row.step % 3).toNat : Nat) : Int) = (st : Int) + x.row.step % 3 := by omega
    simp only [madeVGo, madeGo, List.map_cons, madeVGo_rows t, h]
theorem madeV_rows (xs : List RowV) (most : Nat) : (madeV xs most).map RowV.row = madeS (xs.map RowV.row) most := by
  rw [madeV, madeVGo_rows, madeS, List.map_take]; rfl
theorem madeVGo_len : ∀ (xs : List RowV) (st : Nat), (madeVGo st xs).length = xs.length
  | [], _ => rfl
  | x :: t, st => by simp [madeVGo, madeVGo_len t]
theorem madeV_len (xs : List RowV) (most : Nat) : (madeV xs most).length = min most xs.length := by rw [madeV, madeVGo_len, List.length_take]
theorem madeVGo_bytes {w : World} : ∀ (xs : List RowV) (st : Nat), (∀ x ∈ xs, Bytes w x.ao x.n x.row.b) → ∀ y ∈ madeVGo st xs, Bytes w y.ao y.n y.row.b ∧ y.n ≤ 100 ∧ ∃ x ∈ xs, y.ao = x.ao
  | [], _, _, y, hy => by cases hy
  | x :: t, st, h, y, hy => by
    rcases List.mem_cons.1 hy with rfl | hy
    · have hb := h x (by simp)
      have hl := hb.1
      refine ⟨?_, Nat.min_le_right _ _, x, by simp, rfl⟩
      show Bytes w x.ao (min x.n 100) (x.row.b.take 100)
      have := hb.take (min x.n 100) (Nat.min_le_left _ _)
      have ht : x.row.b.take (min x.n 100) = x.row.b.take 100 := by
        rw [Nat.min_comm, ← List.take_take, List.take_of_length_le (i := x.n) (by omega)]
      rwa [ht] at this
    · obtain ⟨h1, h2, z, hz, h3⟩ := madeVGo_bytes t _ (fun z hz => h z (by simp [hz])) y hy
      exact ⟨h1, h2, z, by simp [hz], h3⟩
theorem madeV_bytes {w : World} (xs : List RowV) (most : Nat) (h : ∀ x ∈ xs, Bytes w x.ao x.n x.row.b) : ∀ y ∈ madeV xs most, Bytes w y.ao y.n y.row.b ∧ y.n ≤ 100 ∧ ∃ x ∈ xs, y.ao = x.ao := fun y hy => by
  obtain ⟨h1, h2, z, hz, h3⟩ := madeVGo_bytes _ 0 (fun z hz => h z (List.mem_of_mem_take hz)) y hy
  exact ⟨h1, h2, z, List.mem_of_mem_take hz, h3⟩

theorem bring_nat (x : Int) (m : Nat) (M : Int) (hM : M = (m : Int)) (hm : 0 < m) (hm2 : m < 1000000) (j : Nat) (hj : x % (m : Int) = (j : Int)) (w : World) :
    Calls Tryd.prog 14 #[.int .i64 x, .int .i64 M] w fun e w' => e = .returned (.int .i64 (j : Int)) ∧ w = w' := by
  subst hM
  refine (bring_ok x m hm hm2 w).mono ?_
  rintro e w' ⟨rfl, h⟩
  rw [hj]
  exact ⟨rfl, h⟩

theorem node_cell {w : World} {nb : Nat} {T : TypeId} (h : w.heap[nb]? = some (.cells #[.int .i64 0, .int .i64 1, .int .i64 2, .int .i64 10, .int .i64 11, .int .i64 12, .int .i64 13] T (0, 0))) (x : Int) (j : Nat) (hj : x % 7 = (j : Int)) :
    w.cell? ⟨nb, j, none⟩ = some (.int .i64 (nodeS x)) := by
  have hl : j = 0 ∨ j = 1 ∨ j = 2 ∨ j = 3 ∨ j = 4 ∨ j = 5 ∨ j = 6 := by omega
  have hs : nodeS x = (nodeL[j]?).getD 0 := by unfold nodeS; rw [hj]; rfl
  rw [hs]
  rcases hl with rfl | rfl | rfl | rfl | rfl | rfl | rfl <;> exact cell_of h rfl

theorem made_step {xs ys : List RowV} {most k st j0 j2 : Nat} {r : RowV} (h : madeV xs most = ys ++ madeVGo st ((xs.take most).drop k)) (hr : xs[k]? = some r) (hk : k < most) (h0 : r.row.step % ((3 : Nat) : Int) = (j0 : Int)) (h2 : r.row.kind % ((3 : Nat) : Int) = (j2 : Int)) :
    madeV xs most = ys ++ ([⟨⟨(st : Int) + (j0 : Int), nodeS r.row.node, 1 + (j2 : Int), r.row.b.take 100⟩, r.ao, min r.n 100, r.cap⟩] ++ madeVGo (st + j0) ((xs.take most).drop (k + 1))) := by
  have e : (xs.take most)[k]? = some r := by rw [List.getElem?_take, if_pos hk]; exact hr
  have hd : (xs.take most).drop k = r :: (xs.take most).drop (k + 1) := by
    obtain ⟨hl, he⟩ := List.getElem?_eq_some_iff.1 e
    rw [List.drop_eq_getElem_cons hl, he]
  rw [h, hd]
  have q0 : (r.row.step % 3).toNat = j0 := by omega
  have q2 : r.row.kind % 3 = (j2 : Int) := h2
  simp only [madeVGo, q0, seedRow, q2, List.singleton_append, Int.natCast_add]

theorem wpAnyH_strong {P : Program} {md : Region.Mode} {ops : Array Oper} {Q : Exit → Act → World → Prop} {S S2 : World → Prop} (h : ∀ w, S2 w → S w) : ∀ {fuel : Nat} {listed : Array Bool} {a : Act} {w : World}, wpAnyH P md ops Q S2 fuel listed a w → wpAnyH P md ops Q S fuel listed a w
  | 0, _, _, _, hh => hh
  | _ + 1, _, _, _, hh => ⟨hh.1, fun i hi => wpOp_mono (fun _ _ h' => ⟨h _ h'.1, wpAnyH_strong h h'.2⟩) (hh.2 i hi)⟩

theorem made_far {w wr w3 : World} {X : Obj} {v v' : Value} (f : ∀ k, v.ownBlock = some k → w.heap.size ≤ k) (e : Ext nob w wr) (e3 : Ext nob wr w3) (h : ∀ k, v'.ownBlock = some k → v.ownBlock = some k ∨ (w3.alloc X).heap.size ≤ k) : ∀ k, v'.ownBlock = some k → w.heap.size ≤ k := fun k hk => by
  rcases h k hk with h | h
  · exact f k h
  · have := e.size
    have := e3.size
    rw [World.size_alloc] at h
    omega

set_option linter.unusedSimpArgs false in
set_option maxRecDepth 20000 in
set_option maxHeartbeats 4000000 in
theorem made_ok (ao : Option Addr) (n c : Nat) (xs : List RowV) (most : Nat) (w : World) (hx : SeedsAt w ao n xs) (hn : n < 4611686018427387904) (hm : most ≤ 1000) :
    Calls Tryd.prog 12 #[.slice ao n c, .int .i64 (most : Int)] w fun e w' => ∃ v, e = .returned v ∧ Own w' 34 4 v (madeV xs most).length ((madeV xs most).flatMap RowV.cells) ∧ Ext nob w w' ∧ (∀ k, v.ownBlock = some k → w.heap.size ≤ k) := by
  have HX := Lib.hid hx
  have HN := Lib.hid hn
  have HM := Lib.hid hm
  clear hx hn hm
  go_enter Tryd.func12, Tryd.ntmps12
  go_wp2_with fail
  go_loopw [5, 6, 7] (fun v5 v6 i wr => ∃ (k st : Nat) (ys : List RowV), i = .int .i64 (k : Int) ∧ v6 = .int .i64 (st : Int) ∧ k ≤ n ∧ k ≤ most ∧ st ≤ 2 * k ∧ ys.length = k ∧ madeV xs most = ys ++ madeVGo st ((xs.take most).drop k) ∧ Own wr 34 4 v5 ys.length (ys.flatMap RowV.cells) ∧ (∀ k, v5.ownBlock = some k → w.heap.size ≤ k) ∧ Ext nob w wr) (fun _ _ i _ => n - (intOf i).toNat)
  case atStart => exact ⟨0, 0, [], rfl, rfl, by omega, by omega, by omega, rfl, rfl, World.ownsRow_nil _ _ _ _, (fun k h => by simp [Value.ownBlock] at h), Ext.refl _ _⟩
  case round =>
    obtain ⟨k, st, ys, rfl, rfl, hk, hkm, hst, hys, hmv, ho, hf, he⟩ := hrel
    have HMV := Lib.hid hmv
    have HO := Lib.hid ho
    have HF := Lib.hid hf
    have HE := Lib.hid he
    have HYS := Lib.hid hys
    have hb : n < 4611686018427387904 := HN.out
    have hmo : most < 4611686018427387904 := by have := HM.out; omega
    clear hmv ho hf he
    by_cases hkn : k < n
    · by_cases hk2 : k < most
      · have hki : (k : Int) < n := by omega
        have hki2 : (k : Int) < most := by omega
        obtain ⟨r, hr⟩ : ∃ r, xs[k]? = some r := ⟨xs[k]'(by rw [HX.out.1]; exact hkn), List.getElem?_eq_getElem _⟩
        obtain ⟨x1, x2, x3⟩ := HX.out.ext HE.out (fun _ _ h => h) (fun _ _ _ _ h => h)
        have hne : xs.flatMap RowV.cells ≠ [] := fun h => by have := cells_len xs; rw [h, x1] at this; simp at this; omega
        obtain ⟨g, o, rfl⟩ := x2.addr hne
        obtain ⟨c0, c1, c2, c3⟩ := row_cells x2 k r hr
        obtain ⟨y1, y2⟩ := x3 r (List.mem_of_getElem? hr)
        have hg : g < wr.heap.size := World.block_lt_of_cell? wr _ c0
        have hcp := y2
        obtain ⟨j0, hj0⟩ : ∃ j : Nat, r.row.step % ((3 : Nat) : Int) = (j : Int) := ⟨(r.row.step % 3).toNat, by omega⟩
        obtain ⟨j1, hj1⟩ : ∃ j : Nat, r.row.node % ((7 : Nat) : Int) = (j : Int) := ⟨(r.row.node % 7).toNat, by omega⟩
        obtain ⟨j2, hj2⟩ : ∃ j : Nat, r.row.kind % ((3 : Nat) : Int) = (j : Int) := ⟨(r.row.kind % 3).toNat, by omega⟩
        have hj0l : j0 < 3 := by omega
        have hj1l : j1 < 7 := by omega
        have hj2l : j2 < 3 := by omega
        have hj1i : (j1 : Int) < 7 := by omega
        have hst1 : IntKind.i64.wrap ((st : Int) + (j0 : Int)) = ((st + j0 : Nat) : Int) := by rw [IntWalk.i64_in _ (by have := HM.out; omega)]; omega
        have hkd1 : IntKind.i64.wrap (1 + (j2 : Int)) = ((1 + j2 : Nat) : Int) := by rw [IntWalk.i64_in _ (by omega)]; omega
        have hmin : (if (100 : Int) < (r.n : Int) then (100 : Int) else (r.n : Int)) = ((min r.n 100 : Nat) : Int) := by split <;> omega
        have hmc : min r.n 100 ≤ r.cap := by omega
        go_wp2_with fail
        refine (bring_nat _ 3 _ rfl (by omega) (by omega) j0 hj0 _).mono ?_
        rintro e w2 ⟨rfl, rfl⟩
        have hgv : ¬ u5.ownBlock = some g := fun h => by
          have h1 := HF.out g h
          have h2 := HX.out.2.1.lt hne g ⟨_, rfl, rfl⟩
          omega
        have HS : Hid (∀ w', Ext (fun k => u5.ownBlock = some k) wr w' → (w'.cell? ⟨g, o + k * 4 + 1, none⟩ = some (.int .i64 r.row.node) ∧ w'.cell? ⟨g, o + k * 4 + 2, none⟩ = some (.int .i64 r.row.kind) ∧ w'.cell? ⟨g, o + k * 4 + 3, none⟩ = some (.slice r.ao r.n r.cap))) := fun w' e => ⟨e.cell c1 hgv, e.cell c2 hgv, e.cell c3 hgv⟩
        have HEn : Hid (Ext nob wr wr) := Ext.refl _ _
        have HR0 := Lib.hid hr
        clear hgv hne hg x1 x2 x3 y2 hr hcp
        have HMV2 : Hid (madeV xs most = ys ++ ([⟨⟨(st : Int) + (j0 : Int), nodeS r.row.node, 1 + (j2 : Int), r.row.b.take 100⟩, r.ao, min r.n 100, r.cap⟩] ++ madeVGo (st + j0) ((xs.take most).drop (k + 1)))) := made_step HMV.out HR0.out hk2 hj0 hj2
        obtain ⟨R, hR⟩ : ∃ R : RowV, R = ⟨⟨(st : Int) + (j0 : Int), nodeS r.row.node, 1 + (j2 : Int), r.row.b.take 100⟩, r.ao, min r.n 100, r.cap⟩ := ⟨_, rfl⟩
        go_wp2_with fail
        refine wp_region_held_drew (S := (fun w' => w'.cell? ⟨g, o + k * 4 + 1, none⟩ = some (.int .i64 r.row.node) ∧ w'.cell? ⟨g, o + k * 4 + 2, none⟩ = some (.int .i64 r.row.kind) ∧ w'.cell? ⟨g, o + k * 4 + 3, none⟩ = some (.slice r.ao r.n r.cap))) (by kernel_rfl) (HS.out _ HEn.out.drew.nob) (fun hHeld => ?_)
        refine wpAnyH_take (i := 0) (v := ?_) rfl (by kernel_rfl) (by kernel_rfl) (by kernel_rfl) (fun _ _ _ h => h) (Or.inl ⟨by rfl, ?_⟩) (by assumption) ?_
        rotate_left
        · intro w hSw; (try dsimp only at hSw); go_simp; try with_reducible rfl
        try simp only [Act.put, List.setIfInBounds_toArray, List.set_cons_zero, List.set_cons_succ]
        refine wpAnyH_take (i := 1) (v := ?_) rfl (by kernel_rfl) (by kernel_rfl) (by kernel_rfl) (fun _ _ _ h => h) (Or.inl ⟨by rfl, ?_⟩) (by assumption) ?_
        rotate_left
        · intro w hSw; (try dsimp only at hSw); go_simp; try with_reducible rfl
        try simp only [Act.put, List.setIfInBounds_toArray, List.set_cons_zero, List.set_cons_succ]
        refine wpAnyH_take (i := 3) (v := ?_) rfl (by kernel_rfl) (by kernel_rfl) (by kernel_rfl) (fun _ _ _ h => h) (Or.inl ⟨by rfl, ?_⟩) (by assumption) ?_
        rotate_left
        · intro w hSw; (try dsimp only at hSw); go_simp; try with_reducible rfl
        try simp only [Act.put, List.setIfInBounds_toArray, List.set_cons_zero, List.set_cons_succ]
        refine wpAnyH_take (i := 4) (v := ?_) rfl (by kernel_rfl) (by kernel_rfl) (by kernel_rfl) (fun _ _ _ h => h) (Or.inl ⟨by rfl, ?_⟩) (by assumption) ?_
        rotate_left
        · intro w hSw; (try dsimp only at hSw); go_simp; try with_reducible rfl
        try simp only [Act.put, List.setIfInBounds_toArray, List.set_cons_zero, List.set_cons_succ]
        refine wpAnyH_take (i := 5) (v := ?_) rfl (by kernel_rfl) (by kernel_rfl) (by kernel_rfl) (fun _ _ _ h => h) (Or.inl ⟨by rfl, ?_⟩) (by assumption) ?_
        rotate_left
        · intro w hSw; (try dsimp only at hSw); go_simp; try with_reducible rfl
        try simp only [Act.put, List.setIfInBounds_toArray, List.set_cons_zero, List.set_cons_succ]
        refine wpAnyH_take (i := 6) (v := ?_) rfl (by kernel_rfl) (by kernel_rfl) (by kernel_rfl) (fun _ _ _ h => h) (Or.inl ⟨by rfl, ?_⟩) (by assumption) ?_
        rotate_left
        · intro w hSw; (try dsimp only at hSw); go_simp; try with_reducible rfl
        try simp only [Act.put, List.setIfInBounds_toArray, List.set_cons_zero, List.set_cons_succ]
        refine wpAnyH_take (i := 7) (v := ?_) rfl (by kernel_rfl) (by kernel_rfl) (by kernel_rfl) (fun _ _ _ h => h) (Or.inl ⟨by rfl, ?_⟩) (by assumption) ?_
        rotate_left
        · intro w hSw; (try dsimp only at hSw); go_simp; try with_reducible rfl
        try simp only [Act.put, List.setIfInBounds_toArray, List.set_cons_zero, List.set_cons_succ]
        refine wpAnyH_take (i := 11) (v := ?_) rfl (by kernel_rfl) (by kernel_rfl) (by kernel_rfl) (fun _ _ _ h => h) (Or.inl ⟨by rfl, ?_⟩) (by assumption) ?_
        rotate_left
        · intro w hSw; (try dsimp only at hSw); go_simp; try with_reducible rfl
        try simp only [Act.put, List.setIfInBounds_toArray, List.set_cons_zero, List.set_cons_succ]
        refine wpAnyH_take (i := 12) (v := ?_) rfl (by kernel_rfl) (by kernel_rfl) (by kernel_rfl) (fun _ _ _ h => h) (Or.inl ⟨by rfl, ?_⟩) (by assumption) ?_
        rotate_left
        · intro w hSw; (try dsimp only at hSw); go_simp; try with_reducible rfl
        try simp only [Act.put, List.setIfInBounds_toArray, List.set_cons_zero, List.set_cons_succ]
        refine wpAnyH_take (i := 13) (v := ?_) rfl (by kernel_rfl) (by kernel_rfl) (by kernel_rfl) (fun _ _ _ h => h) (Or.inl ⟨by rfl, ?_⟩) (by assumption) ?_
        rotate_left
        · intro w hSw; (try dsimp only at hSw); go_simp; try with_reducible rfl
        try simp only [Act.put, List.setIfInBounds_toArray, List.set_cons_zero, List.set_cons_succ]
        refine wpAnyH_take (i := 14) (v := ?_) rfl (by kernel_rfl) (by kernel_rfl) (by kernel_rfl) (fun _ _ _ h => h) (Or.inl ⟨by rfl, ?_⟩) (by assumption) ?_
        rotate_left
        · intro w hSw; (try dsimp only at hSw); go_simp; try with_reducible rfl
        try simp only [Act.put, List.setIfInBounds_toArray, List.set_cons_zero, List.set_cons_succ]
        refine wpAnyH_take (i := 15) (v := ?_) rfl (by kernel_rfl) (by kernel_rfl) (by kernel_rfl) (fun _ _ _ h => h) (Or.inl ⟨by rfl, ?_⟩) (by assumption) ?_
        rotate_left
        · intro w hSw; (try dsimp only at hSw); go_simp; try with_reducible rfl
        try simp only [Act.put, List.setIfInBounds_toArray, List.set_cons_zero, List.set_cons_succ]
        refine wpAnyH_take (i := 18) (v := ?_) rfl (by kernel_rfl) (by kernel_rfl) (by kernel_rfl) (fun _ _ _ h => h) (Or.inl ⟨by rfl, ?_⟩) (by assumption) ?_
        rotate_left
        · intro w hSw; (try dsimp only at hSw); go_simp; try with_reducible rfl
        try simp only [Act.put, List.setIfInBounds_toArray, List.set_cons_zero, List.set_cons_succ]
        refine wpAnyH_take (i := 19) (v := ?_) rfl (by kernel_rfl) (by kernel_rfl) (by kernel_rfl) (fun _ _ _ h => h) (Or.inl ⟨by rfl, ?_⟩) (by assumption) ?_
        rotate_left
        · intro w hSw; (try dsimp only at hSw); go_simp; try with_reducible rfl
        try simp only [Act.put, List.setIfInBounds_toArray, List.set_cons_zero, List.set_cons_succ]
        refine wpAnyH_take (i := 20) (v := ?_) rfl (by kernel_rfl) (by kernel_rfl) (by kernel_rfl) (fun _ _ _ h => h) (Or.inl ⟨by rfl, ?_⟩) (by assumption) ?_
        rotate_left
        · intro w hSw; (try dsimp only at hSw); go_simp; try with_reducible rfl
        try simp only [Act.put, List.setIfInBounds_toArray, List.set_cons_zero, List.set_cons_succ]
        refine wpAnyH_take (i := 21) (v := ?_) rfl (by kernel_rfl) (by kernel_rfl) (by kernel_rfl) (fun _ _ _ h => h) (Or.inl ⟨by rfl, ?_⟩) (by assumption) ?_
        rotate_left
        · intro w hSw; (try dsimp only at hSw); go_simp; try with_reducible rfl
        try simp only [Act.put, List.setIfInBounds_toArray, List.set_cons_zero, List.set_cons_succ]
        refine wpAnyH_take (i := 22) (v := ?_) rfl (by kernel_rfl) (by kernel_rfl) (by kernel_rfl) (fun _ _ _ h => h) (Or.inl ⟨by rfl, ?_⟩) (by assumption) ?_
        rotate_left
        · intro w hSw; (try dsimp only at hSw); go_simp; try with_reducible rfl
        try simp only [Act.put, List.setIfInBounds_toArray, List.set_cons_zero, List.set_cons_succ]
        refine wpAnyH_take (i := 23) (v := ?_) rfl (by kernel_rfl) (by kernel_rfl) (by kernel_rfl) (fun _ _ _ h => h) (Or.inl ⟨by rfl, ?_⟩) (by assumption) ?_
        rotate_left
        · intro w hSw; (try dsimp only at hSw); go_simp; try with_reducible rfl
        try simp only [Act.put, List.setIfInBounds_toArray, List.set_cons_zero, List.set_cons_succ]
        refine wpAnyH_take (i := 24) (v := ?_) rfl (by kernel_rfl) (by kernel_rfl) (by kernel_rfl) (fun _ _ _ h => h) (Or.inl ⟨by rfl, ?_⟩) (by assumption) ?_
        rotate_left
        · intro w hSw; (try dsimp only at hSw); go_simp; try with_reducible rfl
        try simp only [Act.put, List.setIfInBounds_toArray, List.set_cons_zero, List.set_cons_succ]
        refine wpAnyH_take (i := 25) (v := ?_) rfl (by kernel_rfl) (by kernel_rfl) (by kernel_rfl) (fun _ _ _ h => h) (Or.inl ⟨by rfl, ?_⟩) (by assumption) ?_
        rotate_left
        · intro w hSw; (try dsimp only at hSw); go_simp; try with_reducible rfl
        try simp only [Act.put, List.setIfInBounds_toArray, List.set_cons_zero, List.set_cons_succ]
        refine wpAnyH_take (i := 26) (v := ?_) rfl (by kernel_rfl) (by kernel_rfl) (by kernel_rfl) (fun _ _ _ h => h) (Or.inl ⟨by rfl, ?_⟩) (by assumption) ?_
        rotate_left
        · intro w hSw; (try dsimp only at hSw); go_simp; try with_reducible rfl
        try simp only [Act.put, List.setIfInBounds_toArray, List.set_cons_zero, List.set_cons_succ]
        refine wpAnyH_take (i := 27) (v := ?_) rfl (by kernel_rfl) (by kernel_rfl) (by kernel_rfl) (fun _ _ _ h => h) (Or.inl ⟨by rfl, ?_⟩) (by assumption) ?_
        rotate_left
        · intro w hSw; (try dsimp only at hSw); go_simp; try with_reducible rfl
        try simp only [Act.put, List.setIfInBounds_toArray, List.set_cons_zero, List.set_cons_succ]
        refine wpAnyH_take (i := 28) (v := ?_) rfl (by kernel_rfl) (by kernel_rfl) (by kernel_rfl) (fun _ _ _ h => h) (Or.inl ⟨by rfl, ?_⟩) (by assumption) ?_
        rotate_left
        · intro w hSw; (try dsimp only at hSw); go_simp; try with_reducible rfl
        try simp only [Act.put, List.setIfInBounds_toArray, List.set_cons_zero, List.set_cons_succ]
        refine wpAnyH_take (i := 29) (v := ?_) rfl (by kernel_rfl) (by kernel_rfl) (by kernel_rfl) (fun _ _ _ h => h) (Or.inl ⟨by rfl, ?_⟩) (by assumption) ?_
        rotate_left
        · intro w hSw; (try dsimp only at hSw); go_simp; try with_reducible rfl
        try simp only [Act.put, List.setIfInBounds_toArray, List.set_cons_zero, List.set_cons_succ]
        refine wpAnyH_take (i := 30) (v := ?_) rfl (by kernel_rfl) (by kernel_rfl) (by kernel_rfl) (fun _ _ _ h => h) (Or.inl ⟨by rfl, ?_⟩) (by assumption) ?_
        rotate_left
        · intro w hSw; (try dsimp only at hSw); go_simp; try with_reducible rfl
        try simp only [Act.put, List.setIfInBounds_toArray, List.set_cons_zero, List.set_cons_succ]
        refine wpAnyH_ready (rs := [2]) (by kernel_rfl) (by simp) ?_
        refine AllReadyH.cons rfl (fun K hK => ?_) AllReadyH.nil
        go_simp
        go_at_call 52
        refine (nodes_ok _).mono ?_
        obtain ⟨nb, hnb⟩ : ∃ nb, nb = wr.drew.heap.size := ⟨_, rfl⟩
        rw [← hnb]
        rintro e w3 ⟨rfl, hw3⟩
        have HE3 : Hid (Ext nob wr w3) := by rw [hw3]; exact ((Ext.refl nob wr).drew).alloc _
        have d4 : w3.cell? ⟨nb, j1, none⟩ = some (.int .i64 (nodeS r.row.node)) := node_cell (by rw [hw3, hnb]; exact blk_new _ _) r.row.node j1 hj1
        have hnbo : ¬ u5.ownBlock = some nb := fun h => by
          have h1 := HO.out.lt' nb h
          rw [hnb] at h1
          exact absurd h1 (Nat.lt_irrefl _)
        have HS2 : Hid (∀ w', Ext (fun k => u5.ownBlock = some k) w3 w' → (fun w' => w'.cell? ⟨g, o + k * 4 + 1, none⟩ = some (.int .i64 r.row.node) ∧ w'.cell? ⟨g, o + k * 4 + 2, none⟩ = some (.int .i64 r.row.kind) ∧ w'.cell? ⟨g, o + k * 4 + 3, none⟩ = some (.slice r.ao r.n r.cap) ∧ w'.cell? ⟨nb, j1, none⟩ = some (.int .i64 (nodeS r.row.node))) w') := fun w' e => by
          obtain ⟨s1, s2, s3⟩ := HS.out w' (HE3.out.nob.trans' e)
          exact ⟨s1, s2, s3, e.cell d4 hnbo⟩
        clear hw3 hnb hnbo
        go_wp2_with fail
        refine hK.out _ _ (HS.out _ HE3.out.nob) (fun hHeld => ?_)
        clear hK K hHeld
        try simp only [Act.put, List.setIfInBounds_toArray, List.set_cons_zero, List.set_cons_succ]
        refine wpAnyH_strong (S2 := (fun w' => w'.cell? ⟨g, o + k * 4 + 1, none⟩ = some (.int .i64 r.row.node) ∧ w'.cell? ⟨g, o + k * 4 + 2, none⟩ = some (.int .i64 r.row.kind) ∧ w'.cell? ⟨g, o + k * 4 + 3, none⟩ = some (.slice r.ao r.n r.cap) ∧ w'.cell? ⟨nb, j1, none⟩ = some (.int .i64 (nodeS r.row.node)))) (fun w h => ⟨h.1, h.2.1, h.2.2.1⟩) ?_
        have hHeld := HS2.out w3 (Ext.refl _ _)
        refine wpAnyH_ready (rs := [8]) (by kernel_rfl) (by simp) ?_
        refine AllReadyH.cons rfl (fun K hK => ?_) AllReadyH.nil
        go_simp
        go_at_call 14
        refine (bring_nat _ 7 _ rfl (by omega) (by omega) j1 hj1 _).mono ?_
        rintro e w5 ⟨rfl, rfl⟩
        go_wp2_with fail
        refine hK.out _ _ hHeld (fun _ => ?_)
        clear hK K
        try simp only [Act.put, List.setIfInBounds_toArray, List.set_cons_zero, List.set_cons_succ]
        refine wpAnyH_take (i := 9) (v := ?_) rfl (by kernel_rfl) (by kernel_rfl) (by kernel_rfl) (fun _ _ _ h => h) (Or.inl ⟨by rfl, ?_⟩) (by assumption) ?_
        rotate_left
        · intro w hSw; (try dsimp only at hSw); go_simp; try with_reducible rfl
        try simp only [Act.put, List.setIfInBounds_toArray, List.set_cons_zero, List.set_cons_succ]
        refine wpAnyH_take (i := 10) (v := ?_) rfl (by kernel_rfl) (by kernel_rfl) (by kernel_rfl) (fun _ _ _ h => h) (Or.inl ⟨by rfl, ?_⟩) (by assumption) ?_
        rotate_left
        · intro w hSw; (try dsimp only at hSw); go_simp; try with_reducible rfl
        try simp only [Act.put, List.setIfInBounds_toArray, List.set_cons_zero, List.set_cons_succ]
        refine wpAnyH_ready (rs := [16]) (by kernel_rfl) (by simp) ?_
        refine AllReadyH.cons rfl (fun K hK => ?_) AllReadyH.nil
        go_simp
        go_at_call 14
        refine (bring_nat _ 3 _ rfl (by omega) (by omega) j2 hj2 _).mono ?_
        rintro e w6 ⟨rfl, rfl⟩
        go_wp2_with fail
        refine hK.out _ _ hHeld (fun _ => ?_)
        clear hK K
        try simp only [Act.put, List.setIfInBounds_toArray, List.set_cons_zero, List.set_cons_succ]
        refine wpAnyH_take (i := 17) (v := ?_) rfl (by kernel_rfl) (by kernel_rfl) (by kernel_rfl) (fun _ _ _ h => h) (Or.inl ⟨by rfl, ?_⟩) (by assumption) ?_
        rotate_left
        · intro w hSw; (try dsimp only at hSw); go_simp; try with_reducible rfl
        try simp only [Act.put, List.setIfInBounds_toArray, List.set_cons_zero, List.set_cons_succ]
        refine wpAnyH_take (i := 31) (v := ?_) rfl (by kernel_rfl) (by kernel_rfl) (by kernel_rfl) (fun _ _ _ h => h) (Or.inl ⟨by rfl, ?_⟩) (by assumption) ?_
        rotate_left
        · intro w hSw; (try dsimp only at hSw); go_simp; try with_reducible rfl
        try simp only [Act.put, List.setIfInBounds_toArray, List.set_cons_zero, List.set_cons_succ]
        refine wpAnyH_ready (rs := [32]) (by kernel_rfl) (by simp) ?_
        refine AllReadyH.cons rfl (fun K hK => ?_) AllReadyH.nil
        go_simp
        refine hK.out _ _ (HS2.out _ ((Ext.refl nob w3).alloc _).nob) (fun _ => ?_)
        clear hK K hHeld
        try simp only [Act.put, List.setIfInBounds_toArray, List.set_cons_zero, List.set_cons_succ]
        refine wpAnyH_ready (rs := [33]) (by kernel_rfl) (by simp) ?_
        refine AllReadyH.cons rfl (fun K hK => ?_) AllReadyH.nil
        refine step_rows rfl (.tmp 27) (.tmp 59) rfl _ ys rfl ((HO.out.ext HE3.out (fun _ _ h => h)).ext ((Ext.refl nob w3).alloc _) (fun _ _ h => h)) (some ⟨w3.heap.size, 0, none⟩) 1 1 [⟨⟨(st : Int) + (j0 : Int), nodeS r.row.node, 1 + (j2 : Int), r.row.b.take 100⟩, r.ao, min r.n 100, r.cap⟩] rfl rfl (rd_row w3 _ _ _ _) (by have := HM.out; have h2 := HYS.out; show ys.length + 1 ≤ 1000000; omega) ?_
        intro v' w4 h1 h2 h3
        have K1 := Lib.hid h1
        have K2 := Lib.hid h2
        have K4 : Hid (Ext (fun k => u5.ownBlock = some k) wr w4) := ((HE3.out.alloc _).nob).trans' h2
        have K3 := Lib.hid h3
        clear h1 h2 h3
        refine hK.out _ _ (HS2.out _ ((((Ext.refl nob w3).alloc _).nob).trans' K2.out)) (fun hHeld => ?_)
        clear hK K
        try simp only [Act.put, List.setIfInBounds_toArray, List.set_cons_zero, List.set_cons_succ]
        refine wpAnyH_take (i := 34) (v := ?_) rfl (by kernel_rfl) (by kernel_rfl) (by kernel_rfl) (fun _ _ _ h => h) (Or.inl ⟨by rfl, ?_⟩) (by assumption) ?_
        rotate_left
        · intro w hSw; (try dsimp only at hSw); go_simp; try with_reducible rfl
        try simp only [Act.put, List.setIfInBounds_toArray, List.set_cons_zero, List.set_cons_succ]
        refine wpAnyH_done (by kernel_rfl) ?_ _
        go_wp2_with fail
        have L1 : Hid (Own w4 34 4 v' (ys.length + 1) ((ys ++ [R]).flatMap RowV.cells)) := by rw [hR]; exact K1.out
        have L2 : Hid (∀ k, v'.ownBlock = some k → w.heap.size ≤ k) := made_far HF.out HE.out HE3.out K3.out
        have L3 : Hid (Ext nob w w4) := HE.out.trans K4.out (fun i hi h => absurd (HF.out i h) (by omega))
        clear K1 K2 K3 K4 HE3
        go_roundw
        case rel =>
          refine ⟨k + 1, st + j0, ys ++ [R], by go_num, by go_num, by omega, by omega, by omega, by simp [HYS.out], ?_, by simpa using L1.out, L2.out, L3.out⟩
          rw [hR, List.append_assoc]
          exact HMV2.out
        case measure => simp [intOf]; omega
      · have hki : (k : Int) < n := by omega
        have hki2 : ¬ (k : Int) < most := by omega
        have hke : madeV xs most = ys := by
          have h2 := HMV.out
          rw [List.drop_eq_nil_of_le (by rw [List.length_take]; omega)] at h2
          simpa [madeVGo] using h2
        have HKE := Lib.hid hke
        clear hke
        go_wp2_with fail
        go_ret
        rw [HKE.out]
        exact ⟨_, rfl, HO.out, HE.out, HF.out⟩
    · have hki : ¬ (k : Int) < n := by omega
      have hke : madeV xs most = ys := by
        have h2 := HMV.out
        rw [List.drop_eq_nil_of_le (by rw [List.length_take, HX.out.1]; omega)] at h2
        simpa [madeVGo] using h2
      have HKE := Lib.hid hke
      clear hke
      go_wp2_with fail
      go_ret
      rw [HKE.out]
      exact ⟨_, rfl, HO.out, HE.out, HF.out⟩
end Go.Proofs.YtfgfhfmhadondaaDoor
