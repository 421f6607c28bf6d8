/- mark.Open: the words that its walk wants: a copy into a row; an entry made, then stored. -/
import Derived.Test.YtfgfhfmhadondaaDoorMarkL
import Derived.Test.YtfgfhfmhadondaaDoorMarkM
import Derived.WideKeyEntry
import Derived.Laws.CopyRow
import Derived.Laws.IdiomCopy
import Derived.Laws.CopyOwn
namespace Go.Proofs.YtfgfhfmhadondaaDoor
open Go.RowKit Go.Maps
set_option maxHeartbeats 400000

/-- copy, as one step of a region that draws. -/
theorem step_copy {P : Program} {ops : Array Oper} {o : Oper} {a : Act} {w : World} {K : Act → World → Prop} {Q : Exit → Act → World → Prop} {E : Prop} (hgd : o.guard = none) (d s : Operand) (dT sT : TypeId)
    (ho : o.op = .call { callee := .builtin .copy, args := #[d, s], argTypes := #[dT, sT] }) (elem : TypeId) (hu : P.underlying dT = some (.slice elem)) (hsz : (P.info? elem).map (·.size) = some 1)
    (g off dLen dCap : Nat) (sp : Option Addr) (sLen sCap : Nat) (hd : a.eval d = .slice (some ⟨g, off, none⟩) dLen dCap) (hs : a.eval s = .slice sp sLen sCap)
    (cur : List Value) (t : TypeId) (hg : w.heap[g]? = some (.cells cur.toArray t (0, 0))) (cs : List Value) (hcs : cs.length = sLen) (hn : sLen ≤ dLen)
    (hr : Rd w sp cs) (hfit : off + cs.length ≤ cur.length) (h1 : ∀ v ∈ cs, v.oneCell' = true)
    (h : ∀ w', w'.heap[g]? = some (.cells (cur.take off ++ cs ++ cur.drop (off + cs.length)).toArray t (0, 0)) → Ext (fun k => k = g) w w' → K (a.put o.dst (goInt cs.length)) w') :
    if Region.wanted o (yielded ops a.tmps) = true then Oper.wp P o a w K Q else E := by
  have hw : Region.wanted o (yielded ops a.tmps) = true := by simp [Region.wanted, hgd]
  have hmin : cs.length = Nat.min sLen dLen := by rw [hcs]; exact (Nat.min_eq_left hn).symm
  rw [if_pos hw]
  by_cases h0 : cs.length = 0
  · obtain rfl : cs = [] := List.eq_nil_of_length_eq_zero h0
    have hrun := run_copy_none (P := P) w dT sT o.type elem (some ⟨g, off, none⟩) sp dLen dCap sLen sCap hu hsz (by simpa using hmin.symm)
    unfold Oper.wp
    simp [execOp, ho, resolve, invoke, builtin, hd, hs, hrun, Result.andThen]
    exact h w (by simpa using hg) (Ext.refl _ _)
  · obtain ⟨sg, so, rfl⟩ := hr.addr (fun e => h0 (by rw [e]; rfl))
    have hrun := run_copy_row (P := P) w dT sT o.type elem g off dLen dCap ⟨sg, so, none⟩ sLen sCap cur.toArray t cs hu hsz hg hmin hr.news (by simpa using hfit) h1
    unfold Oper.wp
    simp [execOp, ho, resolve, invoke, builtin, hd, hs, hrun, Result.andThen]
    refine h _ ?_ ((Ext.refl _ w).setRow g _ (fun _ => rfl))
    simpa using setRow_heap w g _ _ t _ hg

theorem ext_setBlock {w : World} {b : Nat} {o : Obj} : Ext (fun k => k = b) w (Go.ChangeMaps.setBlock w b o) :=
  ⟨rfl, rfl, rfl, by simp [Go.ChangeMaps.setBlock], fun i _ h => by simp [Go.ChangeMaps.setBlock, Array.getElem?_setIfInBounds_ne (fun e => h e.symm)]⟩
/-- An entry made for a name, then stored into. -/
theorem NamesAt.entry {w : World} {b : Nat} {D : DataW Unit} (h : NamesAt w b D) (hs : Maps.size D < 1000000) {n : List UInt8} (hn : n.length = 32) :
    ∃ (v0 : Value) (st : Nat) (o1 : Obj), (Instr.mapEntry 114 (.map (some b)) (nameV n)).run Tryd.prog w = .ok (.tuple #[v0, .int .i64 (st : Int)]) (Go.ChangeMaps.setBlock w b o1) ∧ (Go.ChangeMaps.setBlock w b o1).heap[b]? = some o1 ∧ Ext (fun k => k = b) w (Go.ChangeMaps.setBlock w b o1) ∧
      ∀ (w2 : World) (v : Int) (d : List UInt8), d.length = 32 → w2.heap[b]? = some o1 → ∃ w3, (Instr.entryStore 114 (.map (some b)) (.int .i64 (st : Int)) (seenV v d)).run Tryd.prog w2 = .ok () w3 ∧ NamesAt w3 b (putD D n v d) ∧ Ext (fun k => k = b) w2 w3 := by
  have hlt := h.lt
  obtain ⟨es, clock, hb, F, hsz, hD⟩ := h
  obtain ⟨v0, st, es1, clock1, h1, -, h3⟩ := Go.WideElems.entry_then_store (R := seenElem) (WideMaps.ArrKey.law ⟨Tryd.underlying60, by kernel_rfl, by kernel_rfl, by kernel_rfl⟩) Tryd.underlying114 seen_zero hb F (keyOf_name hn)
  refine ⟨v0, st, .map es1 clock1, h1, by simp [Go.ChangeMaps.setBlock, hlt], ext_setBlock, fun w2 v d hd hw2 => ?_⟩
  obtain ⟨es', clock', h4, h5⟩ := h3 w2 (seenV v d) hw2
  have hlt2 : b < w2.heap.size := (Array.getElem?_eq_some_iff.1 hw2).1
  obtain ⟨w', h6, h7, -⟩ := NamesAt.put (w := w) (b := b) (D := D) ⟨es, clock, hb, F, hsz, hD⟩ hs hn v hd
  rw [h5] at h6
  simp only [Result.ok.injEq, true_and] at h6
  subst h6
  refine ⟨_, h4, ?_, ext_setBlock⟩
  obtain ⟨es2, clock2, hb2, F2, hsz2, hD2⟩ := h7
  have : es2 = es' ∧ clock2 = clock' := by
    have h8 : (Go.ChangeMaps.setBlock w b (.map es' clock')).heap[b]? = some (.map es' clock') := by simp [Go.ChangeMaps.setBlock, hlt]
    rw [h8] at hb2
    simp only [Option.some.injEq, Obj.map.injEq] at hb2
    exact ⟨hb2.1.symm, hb2.2.symm⟩
  obtain ⟨rfl, rfl⟩ := this
  exact ⟨es2, clock2, by simp [Go.ChangeMaps.setBlock, hlt2], F2, hsz2, hD2⟩
theorem rraw_lit (p : Nat) (s : RSt) (F : Nat → Prop) (k : Nat) (K : Int) (hK : K = (k : Int)) (w : World) (hr : Reader w p s F) :
    Calls Tryd.prog 88 #[.pointer (some ⟨p, 0, none⟩), .int .i64 K] w fun e w' => ∃ ao cap, e = .returned (.slice ao (rRaw k s).1.length cap) ∧ Rd w' ao ((rRaw k s).1.map byt) ∧ (∀ j, inA ao j → w.heap.size ≤ j) ∧ Reader w' p (rRaw k s).2 F ∧ Ext (fun k => k = p) w w' := by
  subst hK
  refine (rraw_ok p s F k w hr).mono ?_
  rintro e w' ⟨v, n, rfl, h1, h2, h3, h4⟩
  have hn : n = (rRaw k s).1.length := by have := h1.1; simpa using this.symm
  subst hn
  obtain ⟨ao, cap, rfl, r1, -, -, r4⟩ := Own.shape h1
  exact ⟨ao, cap, rfl, r1, fun j hj => h2 j (r4 j hj), h3, h4⟩
theorem ext_growN (w : World) (q : Nat) (os : Array Obj) : Ext nob w (Go.Sort.grow (w.drewN q) os) := by
  refine ⟨rfl, rfl, rfl, ?_, fun i hi _ => ?_⟩
  · simp [Go.Sort.grow, World.drewN]
  · show ((w.drewN q).heap ++ os)[i]? = _
    rw [Array.getElem?_append_left (by exact hi)]
    rfl
theorem order_lt (a b : List UInt8) (ha : a.length = 32) (hb : b.length = 32) (w : World) : Calls Tryd.prog 89 #[.agg (a.map byt).toArray, .agg (b.map byt).toArray] w fun e w' => ∃ z : Int, e = .returned (.int .i64 z) ∧ (z < 0 ↔ a < b) ∧ Ext nob w w' := by
  refine (order_ok ⟨a, ha⟩ ⟨b, hb⟩ w).mono ?_
  rintro e w' ⟨rfl, q, os, rfl⟩
  exact ⟨_, rfl, cmpB_lt a b, ext_growN _ _ _⟩
theorem name_zero (w : World) : (Instr.build 60 #[]).run Tryd.prog w = .ok (nameV z32) w := by kernel_rfl
end Go.Proofs.YtfgfhfmhadondaaDoor
