/- mark: New, none, Version, Len, Life, Epoch. -/
import Derived.Test.YtfgfhfmhadondaaDoorMarkA
import Derived.Deep.RegionHeld3
import Derived.Deep.MidRow
import Derived.Lib.Hide
namespace Go.Proofs.YtfgfhfmhadondaaDoor
open Go.RowKit Go.Maps
set_option maxHeartbeats 400000

/-- Marks, at block p; their map at block b. -/
def MarksAt (w : World) (p b : Nat) (life epoch : Nat) (D : DataW Unit) : Prop :=
  w.heap[p]? = some (.cells #[.int .i64 (life : Int), .int .i64 (epoch : Int), .map (some b)] 116 (0, 0)) ∧ NamesAt w b D ∧ b ≠ p
theorem MarksAt.ext {F : Nat → Prop} {w w' : World} {p b life epoch : Nat} {D : DataW Unit} (h : MarksAt w p b life epoch D) (e : Ext F w w') (hp : ¬ F p) (hb : ¬ F b) : MarksAt w' p b life epoch D :=
  ⟨e.blk h.1 hp, h.2.1.ext e hb, h.2.2⟩
theorem NamesAt.lt {w : World} {b : Nat} {D : DataW Unit} (h : NamesAt w b D) : b < w.heap.size := World.ownsMap.lt h

theorem mblk1 (w : World) (x y : Obj) : ((w.alloc x).alloc y).heap[w.heap.size + 1]? = some y := by
  have := blk_new (w.alloc x) y
  rwa [World.size_alloc] at this
theorem cell_of' {w : World} {g : Nat} {c : Array Value} {T : TypeId} {f : Nat × Nat} (h : w.heap[g]? = some (.cells c T f)) {i : Nat} {v : Value} (hi : c[i]? = some v) : w.cell? ⟨g, i, none⟩ = some v := by
  simp [World.cell?, h, hi]
/-- A name's variable, loaded whole. -/
theorem load_name {w : World} {g : Nat} {n : List UInt8} {fr : Nat × Nat} (hg : w.heap[g]? = some (.cells (n.map byt).toArray 60 fr)) (hn : n.length = 32) :
    (Instr.loadAt 60 (.pointer (some ⟨g, 0, none⟩))).run Tryd.prog w = .ok (nameV n) w :=
  run_loadAt_mid w g 0 60 (n.map byt) _ (fun j v hj => by
    have h1 : ((n.map byt).toArray)[0 + j]? = some v := by rw [Nat.zero_add]; simpa using hj
    exact cell_of' hg h1) Tryd.underlying60 rfl (by rw [List.length_map, hn]; kernel_rfl)

theorem mnew_ok (w : World) : Calls Tryd.prog 26 #[] w fun e w' => e = .returned (.pointer (some ⟨w.heap.size + 1, 0, none⟩)) ∧ MarksAt w' (w.heap.size + 1) w.heap.size 0 0 (.map []) ∧ Ext nob w w' := by
  have hmm := @run_makeMap Tryd.prog
  go_enter Tryd.func26, Tryd.ntmps26
  go_wp2_with fail
  go_ret
  refine ⟨rfl, ⟨mblk1 w _ _, NamesAt.of (World.ownsMap_made w Tryd.prog 60 seenElem |>.alloc _), by omega⟩, ((Ext.refl nob w).alloc _).alloc _⟩

theorem mnone_ok (p b life epoch : Nat) (D : DataW Unit) (w : World) (h : MarksAt w p b life epoch D) :
    Calls Tryd.prog 86 #[.pointer (some ⟨p, 0, none⟩)] w fun e w' => e = .returned (.bool false) ∧ w = w' := by
  obtain ⟨c0, c1, c2, -, -, -, hl⟩ := cells3 h.1
  have hq : ∀ w, (binOp .eql 114 (.map (some b)) (.map none)).run Tryd.prog w = .ok (.bool false) w := fun w => by kernel_rfl
  clear h
  go_enter Tryd.func86, Tryd.ntmps86
  go_wp2_with fail
  go_ret
  exact ⟨rfl, rfl⟩

theorem mlen_ok (p b life epoch : Nat) (D : DataW Unit) (w : World) (h : MarksAt w p b life epoch D) :
    Calls Tryd.prog 35 #[.pointer (some ⟨p, 0, none⟩)] w fun e w' => e = .returned (.int .i64 (Maps.size D)) ∧ w = w' := by
  obtain ⟨c0, c1, c2, -, -, -, hl⟩ := cells3 h.1
  have H := Lib.hid h
  have hlen := h.2.1.len
  clear h
  go_enter Tryd.func35, Tryd.ntmps35
  go_wp2_with fail
  refine (mnone_ok p b life epoch D _ H.out).mono ?_
  rintro e w1 ⟨rfl, rfl⟩
  go_wp2_with fail
  go_ret
  exact ⟨rfl, rfl⟩

theorem mlife_ok (p b life epoch : Nat) (D : DataW Unit) (w : World) (h : MarksAt w p b life epoch D) :
    Calls Tryd.prog 36 #[.pointer (some ⟨p, 0, none⟩)] w fun e w' => e = .returned (.int .i64 (life : Int)) ∧ w = w' := by
  obtain ⟨c0, c1, c2, -, -, -, hl⟩ := cells3 h.1
  have H := Lib.hid h
  clear h
  go_enter Tryd.func36, Tryd.ntmps36
  go_wp2_with fail
  refine (mnone_ok p b life epoch D _ H.out).mono ?_
  rintro e w1 ⟨rfl, rfl⟩
  go_wp2_with fail
  go_ret
  exact ⟨rfl, rfl⟩

theorem mepoch_ok (p b life epoch : Nat) (D : DataW Unit) (w : World) (h : MarksAt w p b life epoch D) :
    Calls Tryd.prog 37 #[.pointer (some ⟨p, 0, none⟩)] w fun e w' => e = .returned (.int .i64 (epoch : Int)) ∧ w = w' := by
  obtain ⟨c0, c1, c2, -, -, -, hl⟩ := cells3 h.1
  have H := Lib.hid h
  clear h
  go_enter Tryd.func37, Tryd.ntmps37
  go_wp2_with fail
  refine (mnone_ok p b life epoch D _ H.out).mono ?_
  rintro e w1 ⟨rfl, rfl⟩
  go_wp2_with fail
  go_ret
  exact ⟨rfl, rfl⟩

theorem mborn_ok (p b life epoch : Nat) (D : DataW Unit) (w : World) (h : MarksAt w p b life epoch D) (hl : life ≤ 1048576) :
    Calls Tryd.prog 38 #[.pointer (some ⟨p, 0, none⟩)] w fun e w' => e = .returned (.tuple #[.int .i64 ((if life = 1048576 then 0 else life + 1 : Nat) : Int), .int .i64 ((if life = 1048576 then 5 else 0 : Nat) : Int)]) ∧ MarksAt w' p b (if life = 1048576 then life else life + 1) epoch D ∧ Ext (fun k => k = p) w w' := by
  obtain ⟨c0, c1, c2, f0, f1, f2, hlt⟩ := cells3 h.1
  have H := Lib.hid h
  clear h
  by_cases hm : life = 1048576
  · subst hm
    simp only [if_true]
    go_enter Tryd.func38, Tryd.ntmps38
    go_wp2_with fail
    refine (mnone_ok p b _ epoch D _ H.out).mono ?_
    rintro e w1 ⟨rfl, rfl⟩
    go_wp2_with fail
    go_ret2
    exact ⟨rfl, H.out, Ext.refl _ _⟩
  · simp only [if_neg hm]
    have h1 : ((life : Int) == 1048576) = false := by simp; omega
    have h2 : IntKind.i64.wrap ((life : Int) + 1) = ((life + 1 : Nat) : Int) := by rw [IntWalk.i64_in _ (by omega)]; omega
    have H3 := Lib.hid (blk_set H.out.1 0 (.int .i64 ((life + 1 : Nat) : Int)))
    clear hm hl
    go_enter Tryd.func38, Tryd.ntmps38
    go_wp2_with fail
    refine (mnone_ok p b life epoch D _ H.out).mono ?_
    rintro e w1 ⟨rfl, rfl⟩
    go_wp2_with fail
    go_ret2
    have he : Ext (fun k => k = p) w (w.setCell ⟨p, 0, none⟩ (.int .i64 ((life + 1 : Nat) : Int))) := (Ext.refl _ w).setCell _ _ (fun _ => rfl)
    exact ⟨rfl, ⟨H3.out, H.out.2.1.ext he H.out.2.2, H.out.2.2⟩, he⟩

def raiseE (epoch : Nat) (x : Int) : Nat := if x < 0 ∨ 255 < x then 2 else if x < epoch then 170 else 0
theorem mraise_ok (p b life epoch : Nat) (D : DataW Unit) (x : Int) (w : World) (h : MarksAt w p b life epoch D) :
    Calls Tryd.prog 39 #[.pointer (some ⟨p, 0, none⟩), .int .i64 x] w fun e w' => e = .returned (.int .i64 (raiseE epoch x : Int)) ∧ MarksAt w' p b life (if raiseE epoch x = 0 then x.toNat else epoch) D ∧ Ext (fun k => k = p) w w' := by
  obtain ⟨c0, c1, c2, f0, f1, f2, hlt⟩ := cells3 h.1
  have H := Lib.hid h
  clear h
  by_cases h1 : x < 0
  · have hr : raiseE epoch x = 2 := by unfold raiseE; rw [if_pos (.inl h1)]
    rw [hr]
    go_enter Tryd.func39, Tryd.ntmps39
    go_wp2_with fail
    refine (mnone_ok p b _ epoch D _ H.out).mono ?_
    rintro e w1 ⟨rfl, rfl⟩
    go_wp2_with fail
    go_ret
    exact ⟨rfl, H.out, Ext.refl _ _⟩
  · by_cases h2 : 255 < x
    · have hr : raiseE epoch x = 2 := by unfold raiseE; rw [if_pos (.inr h2)]
      rw [hr]
      go_enter Tryd.func39, Tryd.ntmps39
      go_wp2_with fail
      refine (mnone_ok p b _ epoch D _ H.out).mono ?_
      rintro e w1 ⟨rfl, rfl⟩
      go_wp2_with fail
      go_ret
      exact ⟨rfl, H.out, Ext.refl _ _⟩
    · by_cases h3 : x < epoch
      · have hr : raiseE epoch x = 170 := by unfold raiseE; rw [if_neg (by omega), if_pos h3]
        rw [hr]
        go_enter Tryd.func39, Tryd.ntmps39
        go_wp2_with fail
        refine (mnone_ok p b _ epoch D _ H.out).mono ?_
        rintro e w1 ⟨rfl, rfl⟩
        go_wp2_with fail
        go_ret
        exact ⟨rfl, H.out, Ext.refl _ _⟩
      · have hr : raiseE epoch x = 0 := by unfold raiseE; rw [if_neg (by omega), if_neg h3]
        rw [hr]
        obtain ⟨y, rfl⟩ : ∃ y : Nat, x = (y : Int) := ⟨x.toNat, by omega⟩
        have H3 := Lib.hid (blk_set H.out.1 1 (.int .i64 (y : Int)))
        simp only [if_true, Int.toNat_natCast]
        go_enter Tryd.func39, Tryd.ntmps39
        go_wp2_with fail
        refine (mnone_ok p b _ epoch D _ H.out).mono ?_
        rintro e w1 ⟨rfl, rfl⟩
        go_wp2_with fail
        go_ret
        have he : Ext (fun k => k = p) w (w.setCell ⟨p, 1, none⟩ (.int .i64 (y : Int))) := (Ext.refl _ w).setCell _ _ (fun _ => rfl)
        exact ⟨rfl, ⟨H3.out, H.out.2.1.ext he H.out.2.2, H.out.2.2⟩, he⟩

theorem seen_field0 (v : Int) (d : List UInt8) (w : World) : (Instr.field 122 (seenV v d) 0).run Tryd.prog w = .ok (.int .i64 v) w := by
  simp [Instr.field, seenV, run_underlying Tryd.underlying122, part, asAgg]

set_option maxRecDepth 20000 in
set_option maxHeartbeats 1000000 in
theorem mversion_ok (p b life epoch : Nat) (D : DataW Unit) (n : List UInt8) (hn : n.length = 32) (w : World) (h : MarksAt w p b life epoch D) :
    Calls Tryd.prog 34 #[.pointer (some ⟨p, 0, none⟩), nameV n] w fun e w' => e = .returned (.int .i64 (verD D n)) ∧ Ext nob w w' := by
  obtain ⟨c0, c1, c2, -, -, -, hl⟩ := cells3 h.1
  have H := Lib.hid h
  clear h
  go_enter Tryd.func34, Tryd.ntmps34
  go_wp2_with fail
  obtain ⟨nb, hnb⟩ : ∃ nb, nb = w.heap.size := ⟨_, rfl⟩
  obtain ⟨W, hW⟩ : ∃ W, W = w.alloc (.cells (n.map byt).toArray 60) := ⟨_, rfl⟩
  have kn : W.heap[nb]? = some (.cells (n.map byt).toArray 60 (0, 0)) := by rw [hW, hnb]; exact blk_new w _
  have HW : Hid (Ext nob w W) := by rw [hW]; exact (Ext.refl nob w).alloc _
  rw [← hW, ← hnb]
  clear hW hnb
  refine (mnone_ok p b life epoch D _ (H.out.ext HW.out (fun h => h) (fun h => h))).mono ?_
  rintro e w1 ⟨rfl, rfl⟩
  have d2 := HW.out.cell c2 (fun h => h)
  have hlw := Nat.lt_of_lt_of_le hl HW.out.size
  have hu60 := Tryd.underlying60
  have hi60 : (Tryd.prog.info? 60).map (·.size) = some (n.map byt).length := by rw [List.length_map, hn]; kernel_rfl
  have HSV : Hid (∀ w', Ext nob W w' → (w'.rangeAt nb 0 (n.map byt) ∧ w'.cell? ⟨p, 2, none⟩ = some (.map (some b)) ∧ (Instr.lookup 114 (.map (some b)) (nameV n) false).run Tryd.prog w' = .ok (seenV (verD D n) (digD D n)) w')) := fun w' e =>
    ⟨fun j v hj => cell_of' (e.blk kn (fun h => h)) (by rw [Nat.zero_add]; simpa using hj), e.cell d2 (fun h => h), ((H.out.2.1.ext (HW.out.trans' e) (fun h => h)).look hn).1⟩
  have hfl : ∀ w', (Instr.field 122 (seenV (verD D n) (digD D n)) 0).run Tryd.prog w' = .ok (.int .i64 (verD D n)) w' := fun w' => seen_field0 _ _ w'
  clear c0 c1 c2 hl kn d2
  go_wp2_with fail
  go_region_held3 (fun w' => w'.rangeAt nb 0 (n.map byt) ∧ w'.cell? ⟨p, 2, none⟩ = some (.map (some b)) ∧ (Instr.lookup 114 (.map (some b)) (nameV n) false).run Tryd.prog w' = .ok (seenV (verD D n) (digD D n)) w') (first | with_reducible exact HSV.out _ (Ext.refl nob W).drew | go_keep) (fail)
  go_wp2_with fail
  go_ret
  exact ⟨rfl, HW.out.drew⟩
end Go.Proofs.YtfgfhfmhadondaaDoor
