/- mark: order (which of two names comes ahead), and the sort of the names. -/
import Derived.Test.YtfgfhfmhadondaaDoorMarkB
import Derived.Lib.BytesEntry
import Derived.Shelf.SlSortCmp.WholeK
import Derived.Test.YtfgfhfmhadondaaDoorSortN
namespace Go.Proofs.YtfgfhfmhadondaaDoor
open Go.RowKit Go.Shelf Go.Lib Go.Sort
set_option maxHeartbeats 400000

theorem bytesOf_ok {P : Program} {w : World} {ao : Option Addr} {n : Nat} {b : List UInt8} (h : Bytes w ao n b) (c : Nat) : (Extern.Bytes.bytesOf (.slice ao n c)).run P w = .ok ⟨b.toArray⟩ w := by
  obtain ⟨rfl, hr⟩ := h
  cases ao with
  | none =>
    cases b with
    | nil => rfl
    | cons x t => obtain ⟨g, o, e, _⟩ := hr 0 (byt x) (by simp); cases e
  | some a =>
    have h1 := run_loadBytesX (P := P) w (b.map fun x => (x.toNat : Int)) a .empty (fun j x hj => by
      rw [List.getElem?_map] at hj
      obtain ⟨y, hy, rfl⟩ := Option.map_eq_some_iff.1 hj
      exact hr.news j _ (by rw [List.getElem?_map, hy]; rfl))
    rw [List.length_map] at h1
    have h2 : Lib.bytesOf (b.map fun x => (x.toNat : Int)) = b := by
      unfold Lib.bytesOf
      rw [List.map_map]
      conv => rhs; rw [← List.map_id b]
      apply List.map_congr_left
      intro x _
      apply UInt8.toNat_inj.1
      simp
    rw [h2] at h1
    show (Extern.Bytes.loadBytes a b.length .empty).run P w = _
    rw [h1]
    simp
set_option maxRecDepth 100000 in
set_option maxHeartbeats 1000000 in
theorem compare_ok (ao bo : Option Addr) (n m c d : Nat) (a b : List UInt8) (w : World) (ha : Bytes w ao n a) (hb : Bytes w bo m b) :
    Calls Tryd.prog 128 #[.slice ao n c, .slice bo m d] w fun e w' => e = .returned (.int .i64 (Lib.compareBytes a b)) ∧ w = w' := by
  have hrun : (Extern.BytealgCompare.compare #[.slice ao n c, .slice bo m d]).run Tryd.prog w = .ok (.int .i64 (Lib.compareBytes a b)) w := by
    change Sem.run Tryd.prog (do pure (goInt (Extern.BytealgCompare.cmp (← Extern.Bytes.bytesOf (.slice ao n c)) (← Extern.Bytes.bytesOf (.slice bo m d))))) w = _
    simp only [Sem.run_bind, bytesOf_ok ha, bytesOf_ok hb, Sem.run_pure, Result.andThen]
    rw [Lib.cmp_eq]
    rfl
  generalize Lib.compareBytes a b = r at hrun ⊢
  go_enter Tryd.func128, Tryd.ntmps128
  go_wp2
  rw [run_callFunc_extern Tryd.func141 (by kernel_rfl) (by kernel_rfl) (by kernel_rfl) (e := Extern.BytealgCompare.compare) (by kernel_rfl), hrun]
  simp only [Result.andThen]
  rw [Oper.upon_value]
  go_wp2
  go_ret
  exact ⟨rfl, rfl⟩

/-- A name of 32 bytes. -/
abbrev NameS := { n : List UInt8 // n.length = 32 }
instance : Inhabited NameS := ⟨⟨z32, rfl⟩⟩
def encN (x : NameS) : List Value := x.1.map byt
theorem encN_len (x : NameS) : (encN x).length = 32 := by unfold encN; rw [List.length_map]; exact x.2

set_option maxRecDepth 100000 in
set_option maxHeartbeats 1000000 in
theorem order_ok (x y : NameS) (W : World) :
    Calls Tryd.prog 89 #[.agg (encN x).toArray, .agg (encN y).toArray] W fun e w' => e = .returned (.int .i64 (Lib.compareBytes x.1 y.1)) ∧ ∃ q os', w' = grow (W.drewN q) os' := by
  obtain ⟨a, ha⟩ := x
  obtain ⟨b, hb⟩ := y
  unfold encN
  simp only []
  obtain ⟨r, hr⟩ : ∃ r, r = Lib.compareBytes a b := ⟨_, rfl⟩
  rw [← hr]
  have HR := Lib.hid hr
  clear hr
  go_enter Tryd.func89, Tryd.ntmps89
  go_wp2_with fail
  obtain ⟨W2, hW2⟩ : ∃ W2, W2 = (W.alloc (.cells (a.map byt).toArray 60)).alloc (.cells (b.map byt).toArray 60) := ⟨_, rfl⟩
  have ka : W2.heap[W.heap.size]? = some (.cells (a.map byt).toArray 60 (0, 0)) := by rw [hW2]; exact blk_alloc (blk_new W _) _
  have kb : W2.heap[W.heap.size + 1]? = some (.cells (b.map byt).toArray 60 (0, 0)) := by rw [hW2]; exact mblk1 W _ _
  have ba : Bytes W2 (some ⟨W.heap.size, 0, none⟩) 32 a := ⟨ha, Rd.of_heap ka 0 (fun j u hj => by simpa using hj)⟩
  have bb : Bytes W2 (some ⟨W.heap.size + 1, 0, none⟩) 32 b := ⟨hb, Rd.of_heap kb 0 (fun j u hj => by simpa using hj)⟩
  have hquiet : Hid (∀ n, Calls Tryd.prog 128 #[.slice (some ⟨W.heap.size, 0, none⟩) 32 32, .slice (some ⟨W.heap.size + 1, 0, none⟩) 32 32] (W2.drewN n) fun e w' => e = .returned (.int .i64 r) ∧ ∃ m, w' = W2.drewN m) := fun n => Calls.quiet_of (by
    refine (compare_ok (some ⟨W.heap.size, 0, none⟩) (some ⟨W.heap.size + 1, 0, none⟩) 32 32 32 32 a b (W2.drewN n) (ba.ext ((Ext.refl nob W2).drewN n) (fun _ _ h => h)) (bb.ext ((Ext.refl nob W2).drewN n) (fun _ _ h => h))).mono ?_
    rintro e w' ⟨rfl, h⟩
    exact ⟨by rw [HR.out], 0, h.symm⟩)
  rw [← hW2]
  have HW2 := Lib.hid hW2
  clear hW2 ka kb ba bb
  go_quiet (exact hquiet.out _)
  go_wp2_with fail
  go_ret
  exact ⟨rfl, nq, _, by rw [HW2.out, alloc_eq_grow, alloc_eq_grow, grow_grow]; rfl⟩

theorem cmpB_self : ∀ (x : List UInt8), Lib.compareBytes x x = 0
  | [] => rfl
  | a :: t => by unfold Lib.compareBytes; rw [if_neg (UInt8.lt_irrefl a), if_neg (UInt8.lt_irrefl a), cmpB_self t]
theorem cmpB_lt : ∀ (x y : List UInt8), Lib.compareBytes x y < 0 ↔ x < y
  | [], [] => by simp [Lib.compareBytes]
  | [], _ :: _ => by simp [Lib.compareBytes]
  | _ :: _, [] => by simp [Lib.compareBytes]
  | a :: s, b :: t => by
    unfold Lib.compareBytes
    rw [List.cons_lt_cons_iff]
    by_cases h1 : a < b
    · rw [if_pos h1]; simp [h1]
    · rw [if_neg h1]
      by_cases h2 : b < a
      · rw [if_pos h2]
        have h3 : a ≠ b := fun e => by subst e; exact UInt8.lt_irrefl a h2
        simp [h1, h3]
      · rw [if_neg h2, cmpB_lt s t]
        have h3 : a = b := UInt8.le_antisymm (UInt8.not_lt.1 h2) (UInt8.not_lt.1 h1)
        simp [h3]
def cfN (x y : NameS) : Int := Lib.compareBytes x.1 y.1
theorem ltN (x y : NameS) : ltOf cfN x y = decide (x.1 < y.1) := by
  unfold ltOf cfN
  exact decide_eq_decide.2 (cmpB_lt x.1 y.1)
theorem swoN : SWO (ltOf cfN) where
  irrefl x := by rw [ltN]; simp
  trans x y z h1 h2 := by rw [ltN] at *; simp only [decide_eq_true_eq] at *; exact List.lt_trans h1 h2
  ntrans x y z h1 h2 := by
    rw [ltN] at *
    simp only [decide_eq_false_iff_not] at *
    exact List.not_lt.2 (List.le_trans (List.not_lt.1 h2) (List.not_lt.1 h1))

theorem cmpLaysN (blk off size : Nat) (w : World) : CmpLays Tryd.prog 89 #[] encN 32 cfN blk off size w :=
  fun _ _ _ _ x y => order_ok x y _

set_option maxRecDepth 100000 in
theorem sort_ok (blk off cap : Nat) (d : Array NameS) (w : World) (hH : HoldsK encN 32 w blk off d) (hblk : blk < w.heap.size) (hsz : d.size < 4611686018427387904) :
    Calls Tryd.prog 90 #[.slice (some ⟨blk, off, none⟩) d.size cap, .func (.func 89) #[] #[]] w fun e w' =>
      e = .returned (.tuple #[]) ∧ ∃ d' n os, PermIn 0 d.size d d' ∧ SortedIn (ltOf cfN) 0 d.size d' ∧ w' = sortWorldK encN 32 w blk off n d' os := by
  have eg : ∀ args w, (callFunc 89 args).run Tryd.prog w = .ok (.enter 89 args) w := enters_of Tryd.func89 (by kernel_rfl) rfl
  exact AnyQ.slices_SortFunc Tryd.sortNames 32 (fun _ => by kernel_rfl) (fun _ => by kernel_rfl) encN encN_len (fun x v hv => oneCell_byt x.1 v hv) cfN swoN 89 #[] blk off cap d w eg (cmpLaysN blk off d.size w) hH hblk hsz
end Go.Proofs.YtfgfhfmhadondaaDoor
