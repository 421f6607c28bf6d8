/- mark: the map of names: how a name and what was seen of it read. -/
import Derived.Test.YtfgfhfmhadondaaDoorKit
import Derived.Test.YtfgfhfmhadondaaDoorNum2
import Derived.Test.YtfgfhfmhadondaaDoorSha3
import Derived.Maps.OwnSet
import Derived.Maps.RangeWalk
import Derived.Sort.KeysCollected
import Derived.WideKeyArr
namespace Go.Proofs.YtfgfhfmhadondaaDoor
open Go.RowKit Go.Maps
set_option maxHeartbeats 400000

abbrev nameV (n : List UInt8) : Value := .agg (n.map byt).toArray
def seenV (v : Int) (d : List UInt8) : Value := .agg (Value.int .i64 v :: d.map byt).toArray
def seenD (v : Int) (d : List UInt8) : DataW Unit := .agg [.lit (.int .i64 v), .lit (.string d)]
def z32 : List UInt8 := List.replicate 32 0

theorem byt_inj {a b : UInt8} (h : byt a = byt b) : a = b := by
  have h' : (a.toNat : Int) = (b.toNat : Int) := by injection h
  exact UInt8.toNat_inj.1 (by omega)
theorem map_byt_inj : ∀ {a b : List UInt8}, a.map byt = b.map byt → a = b
  | [], [], _ => rfl
  | [], _ :: _, h => by simp at h
  | _ :: _, [], h => by simp at h
  | x :: s, y :: t, h => by
    simp only [List.map_cons, List.cons.injEq] at h
    rw [byt_inj h.1, map_byt_inj h.2]
theorem seenV_inj {v v' : Int} {d d' : List UInt8} (h : seenV v d = seenV v' d') : v = v' ∧ d = d' := by
  unfold seenV at h
  injection h with h
  have h := congrArg Array.toList h
  simp only [List.cons.injEq] at h
  obtain ⟨h1, h2⟩ := h
  injection h1 with _ h1
  exact ⟨h1, map_byt_inj h2⟩

open Classical in
/-- How what was seen of a name reads. -/
noncomputable def seenElem (v : Value) : Option (DataW Unit × List MemPlace) :=
  if h : ∃ p : Int × List UInt8, p.2.length = 32 ∧ v = seenV p.1 p.2 then some (seenD h.choose.1 h.choose.2, []) else none
theorem seenElem_mk (v : Int) {d : List UInt8} (hd : d.length = 32) : seenElem (seenV v d) = some (seenD v d, []) := by
  have h : ∃ p : Int × List UInt8, p.2.length = 32 ∧ seenV v d = seenV p.1 p.2 := ⟨(v, d), hd, rfl⟩
  unfold seenElem
  rw [dif_pos h]
  obtain ⟨h1, h2⟩ := seenV_inj h.choose_spec.2
  rw [← h1, ← h2]
theorem seenElem_inv {x : Value} {y : DataW Unit × List MemPlace} (h : seenElem x = some y) : ∃ v d, d.length = 32 ∧ x = seenV v d ∧ y = (seenD v d, []) := by
  unfold seenElem at h
  split at h
  · rename_i hh
    obtain ⟨h1, h2⟩ := hh.choose_spec
    exact ⟨_, _, h1, h2, (Option.some.inj h).symm⟩
  · cases h
theorem seen_zero (w : World) : (zeroValue 122).run Tryd.prog w = .ok (seenV 0 z32) w := by kernel_rfl

/-! ### Names as keys -/
theorem nameLaw : Keyed Tryd.prog 60 := Keyed.of_law (WideMaps.ArrKey.law ⟨Tryd.underlying60, by kernel_rfl, by kernel_rfl, by kernel_rfl⟩)

theorem mapM_all {α β : Type} {f : α → Option β} {g : α → β} : ∀ (l : List α), (∀ x ∈ l, f x = some (g x)) → l.mapM f = some (l.map g)
  | [], _ => rfl
  | x :: t, h => by
    rw [List.mapM_cons, h x (by simp), mapM_all t (fun y hy => h y (by simp [hy]))]
    rfl
theorem take_one {α : Type} {l : List α} {i : Nat} (h : i < l.length) : (l.drop i).take 1 = [l[i]] := by
  rw [List.drop_eq_getElem_cons h]; rfl
theorem lits_byte (m : Nat) (b : UInt8) : Tryd.prog.keyLits (m + 1) 5 [byt b] = some [.int .u8 (b.toNat : Int)] := by
  unfold Program.keyLits
  rw [Tryd.underlying5]
  have h : (Lit.int IntKind.u8 (b.toNat : Int)).wf = true := by
    have := b.toNat_lt
    simp [Lit.wf, IntKind.min, IntKind.max, IntKind.signed, IntKind.bits]
    omega
  simp [h]
theorem keyBytes_u8 : ∀ (n : List UInt8), keyBytes (n.map fun b => Lit.int .u8 (b.toNat : Int)) = n
  | [] => rfl
  | b :: t => by
    have h : Lit.keyBytes (Lit.int .u8 (b.toNat : Int)) = [b] := by
      have hb := b.toNat_lt
      have h1 : (((b.toNat : Int)) % 2 ^ (8 : Nat)).toNat = b.toNat := by omega
      show bytesBE 1 (((b.toNat : Int)) % 2 ^ (8 : Nat)).toNat = [b]
      rw [h1]
      simp only [bytesBE, bytesLE, List.reverse_cons, List.reverse_nil, List.nil_append, List.cons.injEq, and_true]
      apply UInt8.toNat_inj.1
      rw [UInt8.toNat_ofNat']
      omega
    have := keyBytes_u8 t
    unfold keyBytes at this ⊢
    rw [List.map_cons, List.flatMap_cons, h, this]
    rfl
theorem flatten_ones {α β : Type} (f : α → β) : ∀ (l : List α), (l.map fun x => [f x]).flatten = l.map f
  | [] => rfl
  | x :: t => by rw [List.map_cons, List.flatten_cons, flatten_ones f t]; rfl
theorem keyOf_name {n : List UInt8} (hn : n.length = 32) : keyOf Tryd.prog 60 (nameV n) = some (.string n) := by
  have hc : Tryd.prog.cellsOf 60 = 32 := by kernel_rfl
  have hc1 : Tryd.prog.cellsOf 5 = 1 := by kernel_rfl
  obtain ⟨m, hm⟩ : ∃ m, Tryd.prog.types.size = m + 1 := ⟨_, rfl⟩
  have hl : Tryd.prog.keyLits (Tryd.prog.types.size + 1) 60 (n.map byt) = some (n.map fun b => Lit.int .u8 (b.toNat : Int)) := by
    unfold Program.keyLits
    rw [Tryd.underlying60, hm]
    simp only [List.length_map, hn, hc, hc1, if_true, Nat.mul_one]
    rw [mapM_all (g := fun i => [Lit.int .u8 (((n[i]?).getD 0).toNat : Int)]) (List.range 32) (fun i hi => by
      have hi := List.mem_range.1 hi
      rw [take_one (by rw [List.length_map, hn]; exact hi), List.getElem_map, lits_byte, List.getElem?_eq_getElem (by omega)]
      rfl)]
    rw [Option.map_some]
    refine congrArg some ?_
    apply List.ext_getElem?
    intro i
    rw [flatten_ones (fun i : Nat => Lit.int .u8 (((n[i]?).getD (0 : UInt8)).toNat : Int)), List.getElem?_map, List.getElem?_map]
    by_cases hi : i < 32
    · rw [List.getElem?_range hi, List.getElem?_eq_getElem (show i < n.length by omega), Option.map_some, Option.map_some, List.getElem?_eq_getElem (show i < n.length by omega)]
      rfl
    · rw [List.getElem?_eq_none (by simp; omega), List.getElem?_eq_none (by omega)]
      rfl
  unfold keyOf
  rw [Tryd.underlying60]
  have h1 : Tryd.prog.keyType 60 = true := by kernel_rfl
  have h2 : (nameV n).formed Tryd.prog 60 = true := by simp [Value.formed, Tryd.underlying60, hc, hn]
  simp only [h1, h2, Bool.and_self, if_true]
  rw [show (nameV n).cells.toList = n.map byt by simp [Value.cells], hl]
  simp only [Option.map_some, keyBytes_u8]
set_option maxRecDepth 100000 in
theorem keyOf_name_inv {key : Value} {kl : Lit} (h : keyOf Tryd.prog 60 key = some kl) : ∃ n : List UInt8, n.length = 32 ∧ key = nameV n ∧ kl = .string n := by
  have hc : Tryd.prog.cellsOf 60 = 32 := by kernel_rfl
  have hc1 : Tryd.prog.cellsOf 5 = 1 := by kernel_rfl
  obtain ⟨xs, L, rfl, hl, -⟩ := keyOf_top (by rw [Tryd.underlying60]) h
  unfold Program.keyLits at hl
  rw [Tryd.underlying60] at hl
  simp only [hc, hc1, Nat.mul_one] at hl
  split at hl
  · rename_i hsz
    simp only [Option.map_eq_some_iff] at hl
    obtain ⟨ls, ha, -⟩ := hl
    have each : ∀ i (hi : i < xs.toList.length), ∃ b : UInt8, xs.toList[i] = byt b := by
      intro i hi
      have h1 := mapM_some_get ha i i (by rw [List.getElem?_range (by omega)])
      rw [take_one hi] at h1
      have hal : ls.length = 32 := by have := mapM_some_length ha; simpa using this
      rw [List.getElem?_eq_getElem (show i < ls.length by omega)] at h1
      cases hx : xs.toList[i] <;> rw [hx] at h1 <;> (unfold Program.keyLits at h1; simp [Tryd.underlying5] at h1)
      rename_i q z
      obtain ⟨⟨rfl, hw⟩, -⟩ := h1
      simp [Lit.wf, IntKind.min, IntKind.max, IntKind.signed, IntKind.bits] at hw
      refine ⟨UInt8.ofNat z.toNat, ?_⟩
      show Value.int IntKind.u8 z = Value.int IntKind.u8 ((UInt8.ofNat z.toNat).toNat : Int)
      rw [UInt8.toNat_ofNat']
      congr 1
      omega
    have hall : ∀ (l : List Value), (∀ i (hi : i < l.length), ∃ b : UInt8, l[i] = byt b) → ∃ n : List UInt8, l = n.map byt := by
      intro l
      induction l with
      | nil => exact fun _ => ⟨[], rfl⟩
      | cons a t ih =>
        intro h
        obtain ⟨b, hb⟩ := h 0 (by simp)
        obtain ⟨n, hn⟩ := ih (fun i hi => by have := h (i + 1) (by simpa using hi); simpa using this)
        exact ⟨b :: n, by simp only [List.getElem_cons_zero] at hb; rw [List.map_cons, ← hn, hb]⟩
    obtain ⟨n, hn⟩ := hall xs.toList each
    have hnl : n.length = 32 := by rw [hn, List.length_map] at hsz; exact hsz
    have hx : (Value.agg xs) = nameV n := by show Value.agg xs = Value.agg (n.map byt).toArray; rw [← hn]
    refine ⟨n, hnl, hx, ?_⟩
    rw [hx, keyOf_name hnl] at h
    exact (Option.some.inj h).symm
  · cases hl

/-! ### The map's words -/
/-- The map of the names, at block b, reads as D. -/
def NamesAt (w : World) (b : Nat) (D : DataW Unit) : Prop := w.ownsMap Tryd.prog 60 seenElem b (Maps.size D) D
theorem NamesAt.of {w : World} {b n : Nat} {D : DataW Unit} (h : w.ownsMap Tryd.prog 60 seenElem b n D) : NamesAt w b D := by
  obtain ⟨es, clock, hb, F, hs, rfl⟩ := h
  exact ⟨es, clock, hb, F, by simp [Maps.size, length_sorted], rfl⟩
theorem NamesAt.ext {F : Nat → Prop} {w w' : World} {b : Nat} {D : DataW Unit} (h : NamesAt w b D) (e : Ext F w w') (hf : ¬ F b) : NamesAt w' b D := by
  obtain ⟨es, clock, hb, F, hs, hD⟩ := h
  exact ⟨es, clock, e.blk hb hf, F, hs, hD⟩
def verD (D : DataW Unit) (n : List UInt8) : Int := match D.atKey (.string n) (seenD 0 z32) with
  | .agg [.lit (.int _ v), _] => v
  | _ => 0
def digD (D : DataW Unit) (n : List UInt8) : List UInt8 := match D.atKey (.string n) (seenD 0 z32) with
  | .agg [_, .lit (.string d)] => d
  | _ => []
def hasD (D : DataW Unit) (n : List UInt8) : Bool := Maps.has D (.string n)
theorem NamesAt.look_ok {w : World} {b : Nat} {D : DataW Unit} (h : NamesAt w b D) {n : List UInt8} (hn : n.length = 32) :
    (Instr.lookup 114 (.map (some b)) (nameV n) true).run Tryd.prog w = .ok (.tuple #[seenV (verD D n) (digD D n), .bool (hasD D n)]) w ∧ (digD D n).length = 32 := by
  obtain ⟨v, ps, hrun, hv⟩ := World.ownsMap.look_ok h nameLaw Tryd.underlying114 (seen_zero w) (seenElem_mk 0 (d := z32) rfl) (keyOf_name hn)
  obtain ⟨x, d, hd, rfl, hy⟩ := seenElem_inv hv
  have hat : D.atKey (.string n) (seenD 0 z32) = seenD x d := by injection hy
  have h1 : verD D n = x := by unfold verD; rw [hat]; rfl
  have h2 : digD D n = d := by unfold digD; rw [hat]; rfl
  rw [h1, h2]
  exact ⟨hrun, hd⟩
theorem NamesAt.look {w : World} {b : Nat} {D : DataW Unit} (h : NamesAt w b D) {n : List UInt8} (hn : n.length = 32) :
    (Instr.lookup 114 (.map (some b)) (nameV n) false).run Tryd.prog w = .ok (seenV (verD D n) (digD D n)) w ∧ (digD D n).length = 32 := by
  obtain ⟨v, ps, hrun, hv⟩ := World.ownsMap.lookup h nameLaw Tryd.underlying114 (seen_zero w) (seenElem_mk 0 (d := z32) rfl) (keyOf_name hn)
  obtain ⟨x, d, hd, rfl, hy⟩ := seenElem_inv hv
  have hat : D.atKey (.string n) (seenD 0 z32) = seenD x d := by injection hy
  have h1 : verD D n = x := by unfold verD; rw [hat]; rfl
  have h2 : digD D n = d := by unfold digD; rw [hat]; rfl
  rw [h1, h2]
  exact ⟨hrun, hd⟩
theorem NamesAt.len {w : World} {b : Nat} {D : DataW Unit} (h : NamesAt w b D) (ty : TypeId) : (Builtin.len_ #[114] ty #[.map (some b)]).run Tryd.prog w = .ok (.int .i64 (Maps.size D)) w :=
  World.ownsMap.len h Tryd.underlying114 ty
def putD (D : DataW Unit) (n : List UInt8) (v : Int) (d : List UInt8) : DataW Unit := D.put (.string n) (seenD v d)
theorem NamesAt.put {w : World} {b : Nat} {D : DataW Unit} (h : NamesAt w b D) (hs : Maps.size D < 1000000) {n : List UInt8} (hn : n.length = 32) (v : Int) {d : List UInt8} (hd : d.length = 32) :
    ∃ w', (Instr.mapUpdate 114 (.map (some b)) (nameV n) (seenV v d)).run Tryd.prog w = .ok () w' ∧ NamesAt w' b (putD D n v d) ∧ Ext (fun k => k = b) w w' := by
  obtain ⟨w', h1, h2, h3⟩ := World.ownsMap.update h nameLaw Tryd.underlying114 (by unfold maxLen; omega) (keyOf_name hn) (seenElem_mk v hd)
  exact ⟨w', h1, NamesAt.of h2, (Ext.grow h3).mono (fun i _ hi => (Option.some.inj hi).symm)⟩
end Go.Proofs.YtfgfhfmhadondaaDoor
