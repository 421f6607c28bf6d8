/- sha: SHA-256, as the program reckons it. -/
import Derived.Test.YtfgfhfmhadondaaDoorNum2
import Derived.StillTailTactics
namespace Go.Proofs.YtfgfhfmhadondaaDoor
open Go.RowKit
set_option maxHeartbeats 400000

/-- A word turned right, as the model spells it. -/
def trn (x : Int) (n : Nat) : Int := bits BinOp.or IntKind.u32 (x / 2 ^ n) (x * 2 ^ (32 - n) % 4294967296)

theorem turn_ok (x : Int) (n : Nat) (hn : n ≤ 32) (w : World) : Calls Tryd.prog 140 #[.int .u32 x, .int .i64 (n : Int)] w fun e w' => e = .returned (.int .u32 (trn x n)) ∧ ∃ m, w' = w.drewN m := by
  have h0 : (0 : Int) ≤ n := by omega
  have h1 : (n : Int) ≤ 32 := by omega
  have h2 : (0 : Int) ≤ 32 - n := by omega
  go_enter Tryd.func140, Tryd.ntmps140
  go_wp2_with fail
  go_quiet (fail)
  go_wp2_with fail
  go_ret
  exact ⟨rfl, _, rfl⟩

theorem turn_any (x n : Int) (hn : 0 ≤ n ∧ n ≤ 32) (w : World) : Calls Tryd.prog 140 #[.int .u32 x, .int .i64 n] w fun e w' => e = .returned (.int .u32 (trn x n.toNat)) ∧ ∃ m, w' = w.drewN m := by
  obtain ⟨m, rfl⟩ := Int.eq_ofNat_of_zero_le hn.1
  exact turn_ok x m (by omega) w

/-- The words of a block: its own sixteen, and those made of them. -/
def wordAt (l : List UInt8) (k : Nat) : Int :=
  bits BinOp.or IntKind.u32 (bits BinOp.or IntKind.u32 (bits BinOp.or IntKind.u32 (((l.getD (4 * k) 0).toNat : Int) * 16777216) (((l.getD (4 * k + 1) 0).toNat : Int) * 65536)) (((l.getD (4 * k + 2) 0).toNat : Int) * 256)) ((l.getD (4 * k + 3) 0).toNat : Int)
def wordNext (x y a b : Int) : Int :=
  IntKind.u32.wrap (IntKind.u32.wrap (IntKind.u32.wrap (bits BinOp.xor IntKind.u32 (bits BinOp.xor IntKind.u32 (trn y 17) (trn y 19)) (y / 1024) + a) + bits BinOp.xor IntKind.u32 (bits BinOp.xor IntKind.u32 (trn x 7) (trn x 18)) (x / 8)) + b)
def sched (l : List UInt8) : Nat → List Int
  | 0 => []
  | k + 1 => sched l k ++ [if k < 16 then wordAt l k else wordNext ((sched l k).getD (k - 15) 0) ((sched l k).getD (k - 2) 0) ((sched l k).getD (k - 7) 0) ((sched l k).getD (k - 16) 0)]
theorem sched_len (l : List UInt8) : ∀ k, (sched l k).length = k
  | 0 => rfl
  | k + 1 => by simp [sched, sched_len l k]

def W64 (W : List Int) : Array Value := (W.map (Value.int IntKind.u32) ++ List.replicate (64 - W.length) (Value.int IntKind.u32 0)).toArray

/-- Eight words. -/
structure S8 where
  a : Int
  b : Int
  c : Int
  d : Int
  e : Int
  f : Int
  g : Int
  h : Int
def S8.arr (s : S8) : Array Value := #[.int IntKind.u32 s.a, .int IntKind.u32 s.b, .int IntKind.u32 s.c, .int IntKind.u32 s.d, .int IntKind.u32 s.e, .int IntKind.u32 s.f, .int IntKind.u32 s.g, .int IntKind.u32 s.h]
def kList : List Int := [1116352408, 1899447441, 3049323471, 3921009573, 961987163, 1508970993, 2453635748, 2870763221, 3624381080, 310598401, 607225278, 1426881987, 1925078388, 2162078206, 2614888103, 3248222580, 3835390401, 4022224774, 264347078, 604807628, 770255983, 1249150122, 1555081692, 1996064986, 2554220882, 2821834349, 2952996808, 3210313671, 3336571891, 3584528711, 113926993, 338241895, 666307205, 773529912, 1294757372, 1396182291, 1695183700, 1986661051, 2177026350, 2456956037, 2730485921, 2820302411, 3259730800, 3345764771, 3516065817, 3600352804, 4094571909, 275423344, 430227734, 506948616, 659060556, 883997877, 958139571, 1322822218, 1537002063, 1747873779, 1955562222, 2024104815, 2227730452, 2361852424, 2428436474, 2756734187, 3204031479, 3329325298]
def firstS : S8 := ⟨1779033703, 3144134277, 1013904242, 2773480762, 1359893119, 2600822924, 528734635, 1541459225⟩
def roundC : Array Value := (kList.map (Value.int IntKind.u32)).toArray
theorem roundC_at (k : Nat) (hk : k < 64) : roundC[k]? = some (Value.int IntKind.u32 (kList.getD k 0)) := by
  have h : k < kList.length := hk
  simp [roundC, List.getD, List.getElem?_eq_getElem h]
theorem roundC_size : roundC.size = 64 := by decide +kernel
/-- The package's tables lie as the program's text lays them. -/
def Laid (w : World) : Prop := (∃ t fr, w.heap[1]? = some (.cells roundC t fr)) ∧ (∃ t fr, w.heap[0]? = some (.cells firstS.arr t fr))
theorem Laid.ext {F : Nat → Prop} {w w' : World} (h : Laid w) (e : Ext F w w') (h0 : ¬ F 0) (h1 : ¬ F 1) : Laid w' := by
  obtain ⟨⟨t, fr, a⟩, ⟨t', fr', b⟩⟩ := h
  exact ⟨⟨t, fr, e.blk a h1⟩, ⟨t', fr', e.blk b h0⟩⟩

theorem run_index_u32 {P : Program} {T E : TypeId} {m : Nat} (ht : P.underlying T = some (.array m E)) (he : P.underlying E = some (.int .u32)) (hs : (P.info? E).map (·.size) = some 1) (cs : Array Value) (k : Nat) (x : Int) (hk : k < m) (hx : cs[k]? = some (.int .u32 x)) (w : World) :
    (Instr.index T (.agg cs) (.int .i64 (k : Int))).run P w = .ok (.int .u32 x) w := by
  obtain ⟨i, hi, hs'⟩ := Option.map_eq_some_iff.1 hs
  simp [Instr.index, asIntOf, run_underlying ht, run_underlying he, Go.sizeOf, isAgg, typeInfo, hi, hs', hk, part, hx]

def rndT (k w : Int) (s : S8) : Int :=
  ((((s.h + bits BinOp.xor IntKind.u32 (bits BinOp.xor IntKind.u32 (trn s.e 6) (trn s.e 11)) (trn s.e 25)) % 4294967296 + bits BinOp.xor IntKind.u32 s.g (bits BinOp.and IntKind.u32 s.e (bits BinOp.xor IntKind.u32 s.f s.g))) % 4294967296 + k) % 4294967296 + w) % 4294967296
def rndU (s : S8) : Int :=
  (bits BinOp.xor IntKind.u32 (bits BinOp.xor IntKind.u32 (trn s.a 2) (trn s.a 13)) (trn s.a 22) + bits BinOp.or IntKind.u32 (bits BinOp.and IntKind.u32 s.a s.b) (bits BinOp.and IntKind.u32 s.c (bits BinOp.or IntKind.u32 s.a s.b))) % 4294967296
def rnd (k w : Int) (s : S8) : S8 := ⟨(rndT k w s + rndU s) % 4294967296, s.a, s.b, s.c, (s.d + rndT k w s) % 4294967296, s.e, s.f, s.g⟩
def S8.add (s t : S8) : S8 := ⟨(s.a + t.a) % 4294967296, (s.b + t.b) % 4294967296, (s.c + t.c) % 4294967296, (s.d + t.d) % 4294967296, (s.e + t.e) % 4294967296, (s.f + t.f) % 4294967296, (s.g + t.g) % 4294967296, (s.h + t.h) % 4294967296⟩
def rounds (l : List UInt8) (s : S8) : Nat → S8
  | 0 => s
  | k + 1 => rnd (kList.getD k 0) ((sched l 64).getD k 0) (rounds l s k)

def blockI (l : List UInt8) (s : S8) : S8 := s.add (rounds l s 64)

theorem set8 {w : World} {k : Nat} {T : TypeId} (h : w.heap[k]? = some (.cells #[.int .u32 0, .int .u32 0, .int .u32 0, .int .u32 0, .int .u32 0, .int .u32 0, .int .u32 0, .int .u32 0] T (0, 0))) (y0 y1 y2 y3 y4 y5 y6 y7 : Value) :
    ((((((((w.setCell ⟨k, 0, none⟩ y0).setCell ⟨k, 1, none⟩ y1).setCell ⟨k, 2, none⟩ y2).setCell ⟨k, 3, none⟩ y3).setCell ⟨k, 4, none⟩ y4).setCell ⟨k, 5, none⟩ y5).setCell ⟨k, 6, none⟩ y6).setCell ⟨k, 7, none⟩ y7).heap[k]? = some (.cells #[y0, y1, y2, y3, y4, y5, y6, y7] T (0, 0)) := by
  have h8 := blk_set (blk_set (blk_set (blk_set (blk_set (blk_set (blk_set (blk_set h 0 y0) 1 y1) 2 y2) 3 y3) 4 y4) 5 y5) 6 y6) 7 y7
  simp only [List.setIfInBounds_toArray, List.set_cons_zero, List.set_cons_succ] at h8
  exact h8
theorem far8 {w : World} {j k : Nat} {o : Obj} (h : w.heap[k]? = some o) (hk : k ≠ j) (y0 y1 y2 y3 y4 y5 y6 y7 : Value) :
    ((((((((w.setCell ⟨j, 0, none⟩ y0).setCell ⟨j, 1, none⟩ y1).setCell ⟨j, 2, none⟩ y2).setCell ⟨j, 3, none⟩ y3).setCell ⟨j, 4, none⟩ y4).setCell ⟨j, 5, none⟩ y5).setCell ⟨j, 6, none⟩ y6).setCell ⟨j, 7, none⟩ y7).heap[k]? = some o :=
  blk_far (blk_far (blk_far (blk_far (blk_far (blk_far (blk_far (blk_far h _ y0 hk) _ y1 hk) _ y2 hk) _ y3 hk) _ y4 hk) _ y5 hk) _ y6 hk) _ y7 hk

theorem W64_size (W : List Int) (h : W.length ≤ 64) : (W64 W).size = 64 := by simp [W64]; omega
theorem W64_at (W : List Int) (j : Nat) (hj : j < W.length) : (W64 W)[j]? = some (Value.int IntKind.u32 (W.getD j 0)) := by
  simp [W64, List.getElem?_append, hj, List.getD]
theorem W64_next (W : List Int) (h : W.length < 64) : (W64 W)[W.length]? = some (Value.int IntKind.u32 0) := by
  simp [W64, List.getElem?_append, List.getElem?_replicate]; omega
theorem W64_set (W : List Int) (h : W.length < 64) (x : Int) : (W64 W).setIfInBounds W.length (Value.int IntKind.u32 x) = W64 (W ++ [x]) := by
  apply Array.ext'
  simp only [W64, List.setIfInBounds_toArray]
  rw [show 64 - W.length = (64 - (W ++ [x]).length) + 1 from by simp; omega, List.replicate_succ, List.set_append_right _ _ (by simp)]
  simp

theorem Bytes.at' {w : World} {g o n : Nat} {l : List UInt8} (h : Bytes w (some ⟨g, o, none⟩) n l) (j : Nat) (hj : j < n) : w.cell? ⟨g, o + j, none⟩ = some (.int .u8 ((l.getD j 0).toNat : Int)) := by
  have hl := h.1
  rw [h.cell j (by omega)]
  simp [List.getD, List.getElem?_eq_getElem (show j < l.length by omega)]
theorem byte_lt (b : UInt8) : 0 ≤ (b.toNat : Int) ∧ (b.toNat : Int) < 256 := ⟨by omega, by have := UInt8.toNat_lt b; omega⟩

set_option maxRecDepth 100000 in
set_option maxHeartbeats 4000000 in
theorem take_ok (v0 v1 v2 v3 v4 v5 v6 v7 : Int) (ao : Option Addr) (n c : Nat) (l : List UInt8) (w : World) (hb : Bytes w ao n l) (hn : 64 ≤ n) (hG : Laid w) :
    Calls Tryd.prog 125 #[.agg #[.int .u32 v0, .int .u32 v1, .int .u32 v2, .int .u32 v3, .int .u32 v4, .int .u32 v5, .int .u32 v6, .int .u32 v7], .slice ao n c] w fun e w' => e = .returned (.agg (blockI l ⟨v0, v1, v2, v3, v4, v5, v6, v7⟩).arr) ∧ Ext nob w w' := by
  go_enter Tryd.func125, Tryd.ntmps125
  go_wp2_with fail
  have hz : 0 < n := by omega
  obtain ⟨g, o, rfl⟩ := hb.addr hz
  go_loopw [23] (fun i wr => ∃ k : Nat, i = .int .i64 (k : Int) ∧ k ≤ 64 ∧ wr.heap[w.heap.size + 1 + 1]? = some (.cells (W64 (sched l k)) 171 (0, 0)) ∧ wr.heap[w.heap.size]? = some (.cells #[.int .u32 v0, .int .u32 v1, .int .u32 v2, .int .u32 v3, .int .u32 v4, .int .u32 v5, .int .u32 v6, .int .u32 v7] 156 (0, 0)) ∧ wr.heap[w.heap.size + 1]? = some (.cells #[.int .u32 0, .int .u32 0, .int .u32 0, .int .u32 0, .int .u32 0, .int .u32 0, .int .u32 0, .int .u32 0] 156 (0, 0)) ∧ Ext nob w wr) (fun i _ => 64 - (intOf i).toNat)
  case atStart =>
    refine ⟨0, rfl, by omega, ?_, ?_, ?_, (((Ext.refl nob w).alloc _).alloc _).alloc _⟩
    · have h := blk_new ((w.alloc (.cells #[.int .u32 v0, .int .u32 v1, .int .u32 v2, .int .u32 v3, .int .u32 v4, .int .u32 v5, .int .u32 v6, .int .u32 v7] 156)).alloc (.cells #[.int .u32 0, .int .u32 0, .int .u32 0, .int .u32 0, .int .u32 0, .int .u32 0, .int .u32 0, .int .u32 0] 156)) (.cells (W64 (sched l 0)) 171)
      simp only [World.size_alloc] at h
      exact h
    · exact blk_alloc (blk_alloc (blk_new w _) _) _
    · have h := blk_alloc (blk_new (w.alloc (.cells #[.int .u32 v0, .int .u32 v1, .int .u32 v2, .int .u32 v3, .int .u32 v4, .int .u32 v5, .int .u32 v6, .int .u32 v7] 156)) (.cells #[.int .u32 0, .int .u32 0, .int .u32 0, .int .u32 0, .int .u32 0, .int .u32 0, .int .u32 0, .int .u32 0] 156)) (.cells (W64 (sched l 0)) 171)
      simp only [World.size_alloc] at h
      exact h
  case round =>
    obtain ⟨k, rfl, hk, h5, h2, h4, he⟩ := hrel
    by_cases hlt : k < 64
    · by_cases h16 : k < 16
      · have HB := hb.ext he (fun _ _ h => h)
        obtain ⟨i0, hi0⟩ : ∃ i : Nat, i = 4 * k := ⟨_, rfl⟩
        obtain ⟨i1, hi1⟩ : ∃ i : Nat, i = 4 * k + 1 := ⟨_, rfl⟩
        obtain ⟨i2, hi2⟩ : ∃ i : Nat, i = 4 * k + 2 := ⟨_, rfl⟩
        obtain ⟨i3, hi3⟩ : ∃ i : Nat, i = 4 * k + 3 := ⟨_, rfl⟩
        have c0 := HB.at' i0 (by omega)
        have c1 := HB.at' i1 (by omega)
        have c2 := HB.at' i2 (by omega)
        have c3 := HB.at' i3 (by omega)
        obtain ⟨x0, hx0⟩ : ∃ x : Int, x = ((l.getD i0 0).toNat : Int) := ⟨_, rfl⟩
        obtain ⟨x1, hx1⟩ : ∃ x : Int, x = ((l.getD i1 0).toNat : Int) := ⟨_, rfl⟩
        obtain ⟨x2, hx2⟩ : ∃ x : Int, x = ((l.getD i2 0).toNat : Int) := ⟨_, rfl⟩
        obtain ⟨x3, hx3⟩ : ∃ x : Int, x = ((l.getD i3 0).toNat : Int) := ⟨_, rfl⟩
        rw [← hx0] at c0
        rw [← hx1] at c1
        rw [← hx2] at c2
        rw [← hx3] at c3
        obtain ⟨b0, b0'⟩ := byte_lt (l.getD i0 0)
        obtain ⟨b1, b1'⟩ := byte_lt (l.getD i1 0)
        obtain ⟨b2, b2'⟩ := byte_lt (l.getD i2 0)
        obtain ⟨b3, b3'⟩ := byte_lt (l.getD i3 0)
        rw [← hx0] at b0 b0'
        rw [← hx1] at b1 b1'
        rw [← hx2] at b2 b2'
        rw [← hx3] at b3 b3'
        have X0 := Lib.hid hx0
        have X1 := Lib.hid hx1
        have X2 := Lib.hid hx2
        have X3 := Lib.hid hx3
        have e0 : IntKind.i64.wrap (4 * (k : Int)) = (i0 : Int) := by rw [IntWalk.i64_in _ (by omega)]; omega
        have e1 : IntKind.i64.wrap ((i0 : Int) + 1) = (i1 : Int) := by rw [IntWalk.i64_in _ (by omega)]; omega
        have e2 : IntKind.i64.wrap ((i0 : Int) + 2) = (i2 : Int) := by rw [IntWalk.i64_in _ (by omega)]; omega
        have e3 : IntKind.i64.wrap ((i0 : Int) + 3) = (i3 : Int) := by rw [IntWalk.i64_in _ (by omega)]; omega
        have l0 : i0 < n := by omega
        have l1 : i1 < n := by omega
        have l2 : i2 < n := by omega
        have l3 : i3 < n := by omega
        have q5 : wr.cell? ⟨w.heap.size + 1 + 1, k, none⟩ = some (.int .u32 0) := by
          have := W64_next (sched l k) (by rw [sched_len]; omega)
          rw [sched_len] at this
          simp [World.cell?, h5, this]
        have f5 : wr.frozen? ⟨w.heap.size + 1 + 1, k, none⟩ = false := by simp [World.frozen?, h5]
        have H0 := Lib.hid hi0
        have H1 := Lib.hid hi1
        have H2 := Lib.hid hi2
        have H3 := Lib.hid hi3
        have H5 := Lib.hid h5
        have H2' := Lib.hid h2
        have H4 := Lib.hid h4
        have HE := Lib.hid he
        have HBB := Lib.hid hb
        clear hx0 hx1 hx2 hx3 hi0 hi1 hi2 hi3 h5 h2 h4 he hb HB
        go_wp2_with fail
        go_still_tail 35, (by kernel_rfl)
        change wpList _ _ _ _ _ wr.drew
        go_wp2_with fail
        go_roundw
        case rel =>
          refine ⟨k + 1, by go_num, by omega, ?_, blk_far H2'.out _ _ (by simp; omega), blk_far H4.out _ _ (by simp), (HE.out.setCell _ _ (fun h => by simp at h; omega)).drew⟩
          refine (blk_set H5.out k _).trans ?_
          have := W64_set (sched l k) (by rw [sched_len]; omega) (wordAt l k)
          rw [sched_len] at this
          rw [sched, if_pos h16, ← this, X0.out, X1.out, X2.out, X3.out, H0.out, H1.out, H2.out, H3.out]
          rfl
        case measure => simp [intOf]; omega
      · obtain ⟨j15, hj15⟩ : ∃ j : Nat, j + 15 = k := ⟨k - 15, by omega⟩
        obtain ⟨j2, hj2⟩ : ∃ j : Nat, j + 2 = k := ⟨k - 2, by omega⟩
        obtain ⟨j7, hj7⟩ : ∃ j : Nat, j + 7 = k := ⟨k - 7, by omega⟩
        obtain ⟨j16, hj16⟩ : ∃ j : Nat, j + 16 = k := ⟨k - 16, by omega⟩
        have hat : ∀ j, j < k → wr.cell? ⟨w.heap.size + 1 + 1, j, none⟩ = some (.int .u32 ((sched l k).getD j 0)) := fun j hj => by
          have := W64_at (sched l k) j (by rw [sched_len]; omega)
          simp [World.cell?, h5, this]
        have c15 := hat j15 (by omega)
        have c2 := hat j2 (by omega)
        have c7 := hat j7 (by omega)
        have c16 := hat j16 (by omega)
        clear hat
        obtain ⟨x15, hx15⟩ : ∃ x : Int, x = (sched l k).getD j15 0 := ⟨_, rfl⟩
        obtain ⟨x2, hx2⟩ : ∃ x : Int, x = (sched l k).getD j2 0 := ⟨_, rfl⟩
        obtain ⟨x7, hx7⟩ : ∃ x : Int, x = (sched l k).getD j7 0 := ⟨_, rfl⟩
        obtain ⟨x16, hx16⟩ : ∃ x : Int, x = (sched l k).getD j16 0 := ⟨_, rfl⟩
        rw [← hx15] at c15
        rw [← hx2] at c2
        rw [← hx7] at c7
        rw [← hx16] at c16
        have e15 : IntKind.i64.wrap ((k : Int) - 15) = (j15 : Int) := by rw [IntWalk.i64_in _ (by omega)]; omega
        have e2 : IntKind.i64.wrap ((k : Int) - 2) = (j2 : Int) := by rw [IntWalk.i64_in _ (by omega)]; omega
        have e7 : IntKind.i64.wrap ((k : Int) - 7) = (j7 : Int) := by rw [IntWalk.i64_in _ (by omega)]; omega
        have e16 : IntKind.i64.wrap ((k : Int) - 16) = (j16 : Int) := by rw [IntWalk.i64_in _ (by omega)]; omega
        have l15 : j15 < 64 := by omega
        have l2 : j2 < 64 := by omega
        have l7 : j7 < 64 := by omega
        have l16 : j16 < 64 := by omega
        have m7 : (j7 : Int) < 64 := by omega
        have m16 : (j16 : Int) < 64 := by omega
        have m7' : (0 : Int) ≤ j7 := by omega
        have m16' : (0 : Int) ≤ j16 := by omega
        have d7 : (⟨w.heap.size + 1 + 1, k, none⟩ : Addr) ≠ ⟨w.heap.size + 1 + 1, j7, none⟩ := fun h => by injection h; omega
        have d16 : (⟨w.heap.size + 1 + 1, k, none⟩ : Addr) ≠ ⟨w.heap.size + 1 + 1, j16, none⟩ := fun h => by injection h; omega
        have n7 : ¬ k = j7 := by omega
        have n16 : ¬ k = j16 := by omega
        have q5 : wr.cell? ⟨w.heap.size + 1 + 1, k, none⟩ = some (.int .u32 0) := by
          have := W64_next (sched l k) (by rw [sched_len]; omega)
          rw [sched_len] at this
          simp [World.cell?, h5, this]
        have f5 : wr.frozen? ⟨w.heap.size + 1 + 1, k, none⟩ = false := by simp [World.frozen?, h5]
        have X15 := Lib.hid hx15
        have X2 := Lib.hid hx2
        have X7 := Lib.hid hx7
        have X16 := Lib.hid hx16
        have J15 := Lib.hid hj15
        have J2 := Lib.hid hj2
        have J7 := Lib.hid hj7
        have J16 := Lib.hid hj16
        have H5 := Lib.hid h5
        have H2' := Lib.hid h2
        have H4 := Lib.hid h4
        have HE := Lib.hid he
        have HBB := Lib.hid hb
        clear hx15 hx2 hx7 hx16 hj15 hj2 hj7 hj16 h5 h2 h4 he hb
        go_wp2_with fail
        go_quiet (fail)
        go_wp2_with fail
        go_region_held3 (fun w' => w'.cell? ⟨w.heap.size + 1 + 1, j7, none⟩ = some (.int .u32 x7) ∧ w'.cell? ⟨w.heap.size + 1 + 1, j16, none⟩ = some (.int .u32 x16)) (first | go_keep | exact ⟨(World.cell?_setCell_other _ _ _ _ d7).trans c7, (World.cell?_setCell_other _ _ _ _ d16).trans c16⟩) ((go_at_call 140; refine (turn_any _ _ (by decide) _).mono ?_; rintro e w' ⟨rfl, m, rfl⟩))
        go_wp2_with fail
        go_roundw
        case rel =>
          refine ⟨k + 1, by go_num, by omega, ?_, blk_far H2'.out _ _ (by simp; omega), blk_far H4.out _ _ (by simp), (HE.out.drewN _).setCell _ _ (fun h => by simp at h; omega)⟩
          refine (blk_set H5.out k _).trans ?_
          have := fun x => W64_set (sched l k) (by rw [sched_len]; omega) x
          rw [sched_len] at this
          have q15 : j15 = k - 15 := by have := J15.out; omega
          have q2 : j2 = k - 2 := by have := J2.out; omega
          have q7 : j7 = k - 7 := by have := J7.out; omega
          have q16 : j16 = k - 16 := by have := J16.out; omega
          rw [sched, if_neg h16, ← this, X15.out, X2.out, X7.out, X16.out, q15, q2, q7, q16]
          rfl
        case measure => simp [intOf]; omega
    · have hk64 : k = 64 := by omega
      subst hk64
      have H5 := Lib.hid h5
      have H2' := Lib.hid h2
      have H4 := Lib.hid h4
      have HE := Lib.hid he
      have HBB := Lib.hid hb
      obtain ⟨c0, c1, c2, c3, c4, c5, c6, c7, -⟩ := cells8 h2
      clear h5 h2 h4 he hb
      obtain ⟨⟨tK, frK, hK⟩, -⟩ := hG.ext HE.out (fun h => h) (fun h => h)
      have HK := Lib.hid hK
      clear hK hG
      go_wp2_with fail
      go_quiet (fail)
      go_wp2_with (refine wpList_load_row rfl 171 _ rfl 1 rfl tK roundC frK _ HK.out Tryd.underlying171 rfl (by kernel_rfl) ?_)
      go_loopw [9, 10, 11, 12, 13, 14, 15, 16, 118] (fun a b c d e f g h i wq => ∃ (k : Nat) (s : S8), s = rounds l ⟨v0, v1, v2, v3, v4, v5, v6, v7⟩ k ∧ a = .int .u32 s.a ∧ b = .int .u32 s.b ∧ c = .int .u32 s.c ∧ d = .int .u32 s.d ∧ e = .int .u32 s.e ∧ f = .int .u32 s.f ∧ g = .int .u32 s.g ∧ h = .int .u32 s.h ∧ i = .int .i64 (k : Int) ∧ k ≤ 64 ∧ ∃ m, wq = wr.drewN m) (fun _ _ _ _ _ _ _ _ i _ => 64 - (intOf i).toNat)
      case atStart => exact ⟨0, ⟨v0, v1, v2, v3, v4, v5, v6, v7⟩, rfl, rfl, rfl, rfl, rfl, rfl, rfl, rfl, rfl, rfl, by omega, _, rfl⟩
      case round =>
        obtain ⟨k, s, hs, rfl, rfl, rfl, rfl, rfl, rfl, rfl, rfl, rfl, hk, m, rfl⟩ := hrel
        have HS := Lib.hid hs
        clear hs
        by_cases hlt : k < 64
        · have hat := W64_at (sched l 64) k (by rw [sched_len]; omega)
          have cw : wr.cell? ⟨w.heap.size + 1 + 1, k, none⟩ = some (.int .u32 ((sched l 64).getD k 0)) := by simp [World.cell?, H5.out, hat]
          have hix := fun w => run_index_u32 (P := Tryd.prog) Tryd.underlying171 Tryd.underlying155 (by kernel_rfl) roundC k (kList.getD k 0) hlt (roundC_at k hlt) w
          have hki : (k : Int) < 64 := by omega
          clear hat
          obtain ⟨xw, hxw⟩ : ∃ x : Int, x = (sched l 64).getD k 0 := ⟨_, rfl⟩
          obtain ⟨xk, hxk⟩ : ∃ x : Int, x = kList.getD k 0 := ⟨_, rfl⟩
          rw [← hxw] at cw
          rw [← hxk] at hix
          have XW := Lib.hid hxw
          have XK := Lib.hid hxk
          clear hxw hxk
          obtain ⟨sa, sb, sc, sd, se, sf, sg, sh⟩ := s
          go_wp2_with fail
          go_region_held3 (fun w' => w'.cell? ⟨w.heap.size + 1 + 1, k, none⟩ = some (.int .u32 xw)) (go_keep) ((go_at_call 140; refine (turn_any _ _ (by decide) _).mono ?_; rintro e w' ⟨rfl, m, rfl⟩))
          go_wp2_with ((go_at_call 140; refine (turn_any _ _ (by decide) _).mono ?_; rintro e w' ⟨rfl, m, rfl⟩))
          go_roundw
          case rel =>
            refine ⟨k + 1, rnd xk xw ⟨sa, sb, sc, sd, se, sf, sg, sh⟩, ?_, rfl, rfl, rfl, rfl, rfl, rfl, rfl, rfl, by go_num, by omega, _, rfl⟩
            rw [rounds, ← HS.out, XW.out, XK.out]
          case measure => simp [intOf]; omega
        · have hk64 : k = 64 := by omega
          subst hk64
          obtain ⟨d0, d1, d2, d3, d4, d5, d6, d7, -⟩ := cells8 H4.out
          have fS : ∀ i, wr.frozen? ⟨w.heap.size, i, none⟩ = false := fun i => by simp [World.frozen?, H2'.out]
          have fR : ∀ i, wr.frozen? ⟨w.heap.size + 1, i, none⟩ = false := fun i => by simp [World.frozen?, H4.out]
          have x0 : ∀ w x0 x1 x2 x3 x4 x5 x6 x7, (Instr.index 156 (.agg #[.int .u32 x0, .int .u32 x1, .int .u32 x2, .int .u32 x3, .int .u32 x4, .int .u32 x5, .int .u32 x6, .int .u32 x7]) (.int .i64 0)).run Tryd.prog w = .ok (.int .u32 x0) w := fun _ _ _ _ _ _ _ _ _ => by kernel_rfl
          have x1 : ∀ w x0 x1 x2 x3 x4 x5 x6 x7, (Instr.index 156 (.agg #[.int .u32 x0, .int .u32 x1, .int .u32 x2, .int .u32 x3, .int .u32 x4, .int .u32 x5, .int .u32 x6, .int .u32 x7]) (.int .i64 1)).run Tryd.prog w = .ok (.int .u32 x1) w := fun _ _ _ _ _ _ _ _ _ => by kernel_rfl
          have x2 : ∀ w x0 x1 x2 x3 x4 x5 x6 x7, (Instr.index 156 (.agg #[.int .u32 x0, .int .u32 x1, .int .u32 x2, .int .u32 x3, .int .u32 x4, .int .u32 x5, .int .u32 x6, .int .u32 x7]) (.int .i64 2)).run Tryd.prog w = .ok (.int .u32 x2) w := fun _ _ _ _ _ _ _ _ _ => by kernel_rfl
          have x3 : ∀ w x0 x1 x2 x3 x4 x5 x6 x7, (Instr.index 156 (.agg #[.int .u32 x0, .int .u32 x1, .int .u32 x2, .int .u32 x3, .int .u32 x4, .int .u32 x5, .int .u32 x6, .int .u32 x7]) (.int .i64 3)).run Tryd.prog w = .ok (.int .u32 x3) w := fun _ _ _ _ _ _ _ _ _ => by kernel_rfl
          have x4 : ∀ w x0 x1 x2 x3 x4 x5 x6 x7, (Instr.index 156 (.agg #[.int .u32 x0, .int .u32 x1, .int .u32 x2, .int .u32 x3, .int .u32 x4, .int .u32 x5, .int .u32 x6, .int .u32 x7]) (.int .i64 4)).run Tryd.prog w = .ok (.int .u32 x4) w := fun _ _ _ _ _ _ _ _ _ => by kernel_rfl
          have x5 : ∀ w x0 x1 x2 x3 x4 x5 x6 x7, (Instr.index 156 (.agg #[.int .u32 x0, .int .u32 x1, .int .u32 x2, .int .u32 x3, .int .u32 x4, .int .u32 x5, .int .u32 x6, .int .u32 x7]) (.int .i64 5)).run Tryd.prog w = .ok (.int .u32 x5) w := fun _ _ _ _ _ _ _ _ _ => by kernel_rfl
          have x6 : ∀ w x0 x1 x2 x3 x4 x5 x6 x7, (Instr.index 156 (.agg #[.int .u32 x0, .int .u32 x1, .int .u32 x2, .int .u32 x3, .int .u32 x4, .int .u32 x5, .int .u32 x6, .int .u32 x7]) (.int .i64 6)).run Tryd.prog w = .ok (.int .u32 x6) w := fun _ _ _ _ _ _ _ _ _ => by kernel_rfl
          have x7 : ∀ w x0 x1 x2 x3 x4 x5 x6 x7, (Instr.index 156 (.agg #[.int .u32 x0, .int .u32 x1, .int .u32 x2, .int .u32 x3, .int .u32 x4, .int .u32 x5, .int .u32 x6, .int .u32 x7]) (.int .i64 7)).run Tryd.prog w = .ok (.int .u32 x7) w := fun _ _ _ _ _ _ _ _ _ => by kernel_rfl
          go_wp2_with fail
          refine wp_loop_rounds 9 ?_
          rw [rounds_succ]; go_wp2_with fail
          rw [rounds_succ]; go_wp2_with fail
          rw [rounds_succ]; go_wp2_with fail
          rw [rounds_succ]; go_wp2_with fail
          rw [rounds_succ]; go_wp2_with fail
          rw [rounds_succ]; go_wp2_with fail
          rw [rounds_succ]; go_wp2_with fail
          rw [rounds_succ]; go_wp2_with fail
          rw [rounds_succ]; go_wp2_with fail
          refine ret_row 4 156 ?e1 (w.heap.size + 1) ?e2 156 (blockI l ⟨v0, v1, v2, v3, v4, v5, v6, v7⟩).arr (0, 0) ?e3 _ Tryd.underlying156 rfl ?e4 ?e5 ⟨rfl, ?e6⟩
          case e1 => rfl
          case e2 => rfl
          case e4 => kernel_rfl
          case e5 => rfl
          case e6 => repeat (with_reducible first | refine Ext.setCell ?_ _ _ (fun h => absurd h (by simp)) | refine Ext.drewN ?_ _ | exact HE.out)
          case e3 =>
            have hfin := set8 (far8 (w := wr.drewN m) (j := w.heap.size) (k := w.heap.size + 1) H4.out (by omega) (.int .u32 ((v0 + s.a) % 4294967296)) (.int .u32 ((v1 + s.b) % 4294967296)) (.int .u32 ((v2 + s.c) % 4294967296)) (.int .u32 ((v3 + s.d) % 4294967296)) (.int .u32 ((v4 + s.e) % 4294967296)) (.int .u32 ((v5 + s.f) % 4294967296)) (.int .u32 ((v6 + s.g) % 4294967296)) (.int .u32 ((v7 + s.h) % 4294967296)))
              (.int .u32 ((v0 + s.a) % 4294967296)) (.int .u32 ((v1 + s.b) % 4294967296)) (.int .u32 ((v2 + s.c) % 4294967296)) (.int .u32 ((v3 + s.d) % 4294967296)) (.int .u32 ((v4 + s.e) % 4294967296)) (.int .u32 ((v5 + s.f) % 4294967296)) (.int .u32 ((v6 + s.g) % 4294967296)) (.int .u32 ((v7 + s.h) % 4294967296))
            rw [blockI, ← HS.out]
            exact hfin
end Go.Proofs.YtfgfhfmhadondaaDoor
