/- mark: Bytes. -/
import Derived.Test.YtfgfhfmhadondaaDoorMarkC
import Derived.Test.YtfgfhfmhadondaaDoorMarkE
import Derived.Shelf.SlSortCmp.NoneTotal
namespace Go.Proofs.YtfgfhfmhadondaaDoor
open Go.RowKit Go.Maps Go.Shelf Go.Lib Go.Sort
set_option maxHeartbeats 400000

theorem info_name : (Tryd.prog.info? 60).map (fun i => (i.zero, i.size, i.bytes)) = some (some (nameV z32), 32, 32) := by kernel_rfl
theorem names_len (L : List NameS) : (L.flatMap encN).length = L.length * 32 := by
  induction L with
  | nil => rfl
  | cons x t ih => rw [List.flatMap_cons, List.length_append, ih, encN_len, List.length_cons]; omega
theorem oneCell_names (L : List NameS) : ∀ u ∈ L.flatMap encN, u.oneCell' = true := by
  intro u hu
  obtain ⟨x, -, hx⟩ := List.mem_flatMap.1 hu
  exact oneCell_byt x.1 u hx

theorem fold_in : ∀ (l : List Value) (k : Nat) (cs : Array Value), k + l.length ≤ cs.size →
    ((l.zipIdx k).foldl (fun cs x => cs.setIfInBounds x.2 x.1) cs).toList = cs.toList.take k ++ l ++ cs.toList.drop (k + l.length)
  | [], k, cs, h => by simp
  | x :: t, k, cs, h => by
    rw [List.length_cons] at h
    rw [List.zipIdx_cons, List.foldl_cons, fold_in t (k + 1) _ (by simp; omega)]
    simp only [Array.toList_setIfInBounds]
    have hl : k < cs.toList.length := by rw [Array.length_toList]; omega
    have e : cs.toList.set k x = (cs.toList.take k ++ [x]) ++ cs.toList.drop (k + 1) := by
      rw [List.set_eq_take_append_cons_drop, if_pos hl]; simp
    have hA : (cs.toList.take k ++ [x]).length = k + 1 := by rw [List.length_append, List.length_take, List.length_singleton]; omega
    rw [e, List.take_left' hA, List.drop_append, List.drop_eq_nil_of_le (by rw [hA]; omega), List.nil_append, hA, List.drop_drop]
    simp only [List.append_assoc, List.singleton_append, List.length_cons]
    congr 3
    rw [show k + 1 + (k + 1 + t.length - (k + 1)) = k + (t.length + 1) by omega]
theorem fold_zero (l : List Value) (cs : Array Value) (h : l.length = cs.size) : l.zipIdx.foldl (fun cs x => cs.setIfInBounds x.2 x.1) cs = l.toArray := by
  apply Array.ext'
  rw [fold_in l 0 cs (by omega)]
  simp [h]
theorem grown_of_ext {w w' : World} {row : Option Nat} (e : Ext (fun k => row = some k) w w') : w.grownBy w' row := ⟨e.os, e.tape, e.output, e.size, fun i hi h => e.block i hi (fun q => h q.symm)⟩
theorem grown_nob {w w' : World} (e : Ext nob w w') : w.grownBy w' none := ⟨e.os, e.tape, e.output, e.size, fun i hi _ => e.block i hi (fun q => q)⟩
theorem ext_of_grown {w w' : World} (h : w.grownBy w' none) : Ext nob w w' := (Ext.grow h).mono (fun i _ hi => by cases hi)
section
variable {w : World} {ops : Array Oper} {rest : List Oper} {o : Oper} {a : Act} {Q : Exit → Act → World → Prop}
theorem wpList_store_new {P : Program} (hgd : o.guard = none) (ty : TypeId) (x y : Operand) (ho : o.op = .store ty x y)
    (g : Nat) (cells : Array Value) (hx : a.eval x = .pointer (some ⟨g, 0, none⟩)) (hy : a.eval y = .agg cells)
    (t : TypeId) (old : Array Value) (hg : w.heap[g]? = some (.cells old t (0, 0))) (hi : (P.info? ty).map (·.size) = some cells.size)
    (hold : old.size = cells.size) (h1 : cells.all (·.oneCell') = true)
    (h : ∀ w2, w2.heap[g]? = some (.cells cells t (0, 0)) → Ext (fun k => k = g) w w2 → wpList P ops Q rest (a.put o.dst undef) w2) : wpList P ops Q (o :: rest) a w :=
  wpList_store_row hgd ty x y ho g cells hx hy t old hg hi hold h1 (h _ (setRow_heap w g old cells t _ hg) ((Ext.refl _ w).setRow g cells (fun _ => rfl)))
theorem wpList_names (hgd : o.guard = none) (s x : Operand)
    (ho : o.op = .call { callee := .builtin .append, args := #[s, x], argTypes := #[125, 125] })
    (v : Value) (L : List NameS) (hs : a.eval s = v) (hown : Own w 60 32 v L.length (L.flatMap encN))
    (ao : Option Addr) (c : Nat) (y : NameS) (hx : a.eval x = .slice ao 1 c) (hb : Rd w ao (encN y)) (hbytes : L.length ≤ 1000000)
    (h : ∀ v' w', Own w' 60 32 v' (L ++ [y]).length ((L ++ [y]).flatMap encN) → Ext (fun k => v.ownBlock = some k) w w' → (∀ k, v'.ownBlock = some k → v.ownBlock = some k ∨ w.heap.size ≤ k) → wpList Tryd.prog ops Q rest (a.put o.dst v') w') : wpList Tryd.prog ops Q (o :: rest) a w := by
  obtain ⟨i, hi, hz, hsz, hby⟩ := info_parts info_name
  refine wpList_app hgd s x 125 ho 60 i (nameV z32) 32 32 Tryd.underlying125 hi hz hsz hby rfl (by decide) v L.length _ hs hown ao 1 c (encN y) hx (by rw [encN_len]) hb (fun u hu => oneCell_byt y.1 u hu) (by omega) (by unfold maxLen; omega) ?_
  intro v' w' h1 h2 h3
  refine h v' w' ?_ h2 h3
  rw [List.length_append, List.flatMap_append]
  simpa using h1
end

end Go.Proofs.YtfgfhfmhadondaaDoor
