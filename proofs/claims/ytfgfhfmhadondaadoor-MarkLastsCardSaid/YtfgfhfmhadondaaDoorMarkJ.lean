/- sealchainlaw10: env, name. -/
import Derived.Test.YtfgfhfmhadondaaDoorMarkI
namespace Go.Proofs.YtfgfhfmhadondaaDoor
open Go.RowKit Go.Maps
set_option maxHeartbeats 400000

def nameB (c : UInt8) : List UInt8 := UInt8.ofNat (c.toNat / 16) :: (List.replicate 30 0 ++ [c])
theorem nameB_len (c : UInt8) : (nameB c).length = 32 := rfl
theorem nameB_inj {c d : UInt8} (h : nameB c = nameB d) : c = d := by
  have := congrArg (fun l => l[31]?) h
  simpa [nameB] using this

set_option maxRecDepth 100000 in
set_option maxHeartbeats 1000000 in
theorem name_ok (c : UInt8) (w : World) : Calls Tryd.prog 30 #[.int .u8 (c.toNat : Int)] w fun e w' => e = .returned (nameV (nameB c)) ∧ Ext nob w w' := by
  have hc := c.toNat_lt
  have hd : IntKind.u8.wrap ((c.toNat : Int).tdiv 16) = ((c.toNat / 16 : Nat) : Int) := by
    rw [show ((c.toNat : Int).tdiv 16) = ((c.toNat / 16 : Nat) : Int) by rw [Int.tdiv_eq_ediv_of_nonneg (by omega)]; rfl]
    simp [IntKind.wrap, IntKind.bits, IntKind.signed]
    omega
  go_enter Tryd.func30, Tryd.ntmps30
  go_upto_region 3 with fail
  have hdv : ((c.toNat : Int) / 16) = ((UInt8.ofNat (c.toNat / 16)).toNat : Int) := by rw [UInt8.toNat_ofNat']; omega
  rw [hdv]
  have hi60 : (Tryd.prog.info? 60).map (·.size) = some ((nameB c).map byt).toArray.size := by kernel_rfl
  have hone60 : ((nameB c).map byt).toArray.all (·.oneCell') = true := all_oneCell_toArray (fun u hu => oneCell_byt _ u hu)
  go_wp2_with (first
    | (refine wpList_load_row rfl 60 (.tmp 3) rfl (w.heap.size + 1) rfl 60 ((nameB c).map byt).toArray (0, 0) _ (mblk1 w _ _) Tryd.underlying60 rfl hi60 ?_)
    | (refine wpList_store_new rfl 60 (.tmp 2) (.tmp 9) rfl w.heap.size ((nameB c).map byt).toArray rfl rfl 60 _ (blk_alloc (blk_new w _) _) hi60 rfl hone60 ?_; intro w3 k3 e3)
    | fail)
  have E : Ext nob w w3 := (((Ext.refl nob w).alloc _).alloc _).trans e3 (fun i hi h => absurd hi (by rw [h]; exact Nat.lt_irrefl _))
  exact ret_row 2 60 rfl w.heap.size rfl 60 _ (0, 0) k3 _ Tryd.underlying60 rfl hi60 rfl ⟨rfl, E⟩

def envB (x : Int) : List UInt8 := [UInt8.ofNat (x % 256).toNat, UInt8.ofNat (x / 256 % 256).toNat, 7]
theorem envB_byte (z : Int) : (Value.int IntKind.u8 (z % 256)) = byt (UInt8.ofNat (z % 256).toNat) := by
  show Value.int IntKind.u8 (z % 256) = Value.int IntKind.u8 ((UInt8.ofNat (z % 256).toNat).toNat : Int)
  rw [UInt8.toNat_ofNat']
  congr 1
  omega
theorem env_ok (x : Int) (w : World) : Calls Tryd.prog 27 #[.int .i64 x] w fun e w' => e = .returned (.slice (some ⟨w.heap.size, 0, none⟩) 3 3) ∧ Bytes w' (some ⟨w.heap.size, 0, none⟩) 3 (envB x) ∧ Ext nob w w' := by
  go_enter Tryd.func27, Tryd.ntmps27
  go_wp2_with fail
  go_ret
  refine ⟨rfl, ⟨rfl, Rd.of_heap (blk_new w _) 0 (fun j u hj => ?_)⟩, (Ext.refl nob w).alloc _⟩
  rw [Nat.zero_add, envB_byte x, envB_byte (x / 256)]
  have h : (#[byt (UInt8.ofNat (x % 256).toNat), byt (UInt8.ofNat (x / 256 % 256).toNat), Value.int IntKind.u8 7] : Array Value) = ((envB x).map byt).toArray := rfl
  rw [h]
  simpa using hj
end Go.Proofs.YtfgfhfmhadondaaDoor
