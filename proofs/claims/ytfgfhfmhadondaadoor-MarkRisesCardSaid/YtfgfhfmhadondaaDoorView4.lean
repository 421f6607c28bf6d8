/- view: First, Many. -/
import Derived.Test.YtfgfhfmhadondaaDoorView3
import Derived.RegionTactic
namespace Go.Proofs.YtfgfhfmhadondaaDoor
open Go.RowKit
set_option maxHeartbeats 400000

def firstGo : List RowS → List RowS → Nat → Int
  | [], [], _ => -1
  | a :: s, b :: t, i => if a = b then firstGo s t (i + 1) else i
  | _, _, i => i
theorem firstGo_l (a : RowS) (s : List RowS) (i : Nat) : firstGo (a :: s) [] i = i := by simp [firstGo]
theorem firstGo_r (b : RowS) (t : List RowS) (i : Nat) : firstGo [] (b :: t) i = i := by simp [firstGo]
def firstI (A B : List RowS) : Int := firstGo A B 0

set_option maxRecDepth 20000 in
set_option maxHeartbeats 1000000 in
theorem vfirst_ok (p q : Nat) (A B : List RowS) (FA FB : Nat → Prop) (w : World) (ha : ViewAt w p A FA) (hb : ViewAt w q B FB) (hla : A.length ≤ 20000) (hlb : B.length ≤ 20000) :
    Calls Tryd.prog 17 #[.pointer (some ⟨p, 0, none⟩), .pointer (some ⟨q, 0, none⟩)] w fun e w' => e = .returned (.int .i64 (firstI A B)) ∧ Ext nob w w' := by
  obtain ⟨va, xa, a1, a2, a3, a4, -⟩ := id ha
  obtain ⟨vb, xb, b1, b2, b3, b4, -⟩ := id hb
  have hxa : xa.length = A.length := by rw [← a3, List.length_map]
  have hxb : xb.length = B.length := by rw [← b3, List.length_map]
  obtain ⟨ao, ca, rfl, qa, -, qa3, -⟩ := Own.shape a2
  obtain ⟨bo, cb, rfl, qb, -, qb3, -⟩ := Own.shape b2
  rw [hxa] at a1
  rw [hxb] at b1
  obtain ⟨c0, -, -, -, hl⟩ := cells2 a1
  obtain ⟨d0, -, -, -, hm⟩ := cells2 b1
  have A3 := Lib.hid a3
  have B3 := Lib.hid b3
  have A4 := Lib.hid a4
  have B4 := Lib.hid b4
  have QA := Lib.hid qa
  have QB := Lib.hid qb
  have HXA := Lib.hid hxa
  have HXB := Lib.hid hxb
  clear ha hb a1 a2 a3 a4 b1 b2 b3 b4 qa qb hxa hxb qa3 qb3
  go_enter Tryd.func17, Tryd.ntmps17
  go_wp2_with fail
  go_quiet (fail)
  go_wp2_with fail
  all_goals go_loopw [25] (fun i wr => ∃ (k : Nat), i = .int .i64 (k : Int) ∧ k ≤ max A.length B.length ∧ firstGo (A.drop k) (B.drop k) k = firstI A B ∧ Ext nob w wr) (fun i _ => max A.length B.length - (intOf i).toNat)
  case atStart => exact ⟨0, rfl, by omega, rfl, (Ext.refl nob w).drewN _⟩
  case atStart => exact ⟨0, rfl, by omega, rfl, (Ext.refl nob w).drewN _⟩
  all_goals (
    obtain ⟨k, rfl, hk, hf, he⟩ := hrel
    have e0 := he.cell c0 (fun h => h)
    have e1 := he.cell d0 (fun h => h)
    have hlr := Nat.lt_of_lt_of_le hl he.size
    have hmr := Nat.lt_of_lt_of_le hm he.size
    have HE := Lib.hid he
    have HF := Lib.hid hf
    clear he hf
    by_cases hkA : k < A.length
    · by_cases hkB : k < B.length
      · have iA : (k : Int) < A.length := by omega
        have iB : (k : Int) < B.length := by omega
        have gA : decide (A.length ≤ k) = false := by simp; omega
        have gB : decide (B.length ≤ k) = false := by simp; omega
        obtain ⟨r, hr⟩ : ∃ r, xa[k]? = some r := ⟨xa[k]'(by rw [HXA.out]; exact hkA), List.getElem?_eq_getElem _⟩
        obtain ⟨s, hs⟩ : ∃ s, xb[k]? = some s := ⟨xb[k]'(by rw [HXB.out]; exact hkB), List.getElem?_eq_getElem _⟩
        have x2 := QA.out.ext HE.out (fun _ _ h => h)
        have x3 := QB.out.ext HE.out (fun _ _ h => h)
        obtain ⟨g, o, rfl⟩ := x2.addr (fun h => by have := cells_len xa; rw [h, HXA.out] at this; simp at this; omega)
        obtain ⟨g', o', rfl⟩ := x3.addr (fun h => by have := cells_len xb; rw [h, HXB.out] at this; simp at this; omega)
        obtain ⟨r0, r1, r2, r3⟩ := row_cells x2 k r hr
        obtain ⟨s0, s1, s2, s3⟩ := row_cells x3 k s hs
        have hgr : g < wr.heap.size := World.block_lt_of_cell? wr _ r0
        have hgs : g' < wr.heap.size := World.block_lt_of_cell? wr _ s0
        have RB : Hid (Bytes wr r.ao r.n r.row.b) := (A4.out r (List.mem_of_getElem? hr)).1.ext HE.out (fun _ _ h => h)
        have SB : Hid (Bytes wr s.ao s.n s.row.b) := (B4.out s (List.mem_of_getElem? hs)).1.ext HE.out (fun _ _ h => h)
        have hA : A[k]? = some r.row := by rw [← A3.out, List.getElem?_map, hr]; rfl
        have hB : B[k]? = some s.row := by rw [← B3.out, List.getElem?_map, hs]; rfl
        have FG : Hid (firstGo (A.drop k) (B.drop k) k = if r.row = s.row then firstGo (A.drop (k + 1)) (B.drop (k + 1)) (k + 1) else (k : Int)) := by
          show _ = _
          rw [List.drop_eq_getElem_cons hkA, List.drop_eq_getElem_cons hkB, firstGo, (List.getElem?_eq_some_iff.1 hA).2, (List.getElem?_eq_some_iff.1 hB).2]
        clear hr hs x2 x3 hA hB
        by_cases hrs : r.row = s.row
        · have hd : decide (r.row = s.row) = true := by simpa using hrs
          have FG2 : Hid (firstGo (A.drop (k + 1)) (B.drop (k + 1)) (k + 1) = firstI A B) := by
            have := FG.out
            rw [if_pos hrs] at this
            exact this.symm.trans HF.out
          clear hrs
          go_wp2_with fail
          go_region_held3 (fun w' => w'.cell? ⟨p, 0, none⟩ = some (.slice (some ⟨g, o, none⟩) A.length ca) ∧ w'.cell? ⟨q, 0, none⟩ = some (.slice (some ⟨g', o', none⟩) B.length cb) ∧ w'.cell? ⟨g, o + k * 4, none⟩ = some (.int .i64 r.row.step) ∧ w'.cell? ⟨g, o + k * 4 + 1, none⟩ = some (.int .i64 r.row.node) ∧ w'.cell? ⟨g, o + k * 4 + 2, none⟩ = some (.int .i64 r.row.kind) ∧ w'.cell? ⟨g, o + k * 4 + 3, none⟩ = some (.slice r.ao r.n r.cap) ∧ w'.cell? ⟨g', o' + k * 4, none⟩ = some (.int .i64 s.row.step) ∧ w'.cell? ⟨g', o' + k * 4 + 1, none⟩ = some (.int .i64 s.row.node) ∧ w'.cell? ⟨g', o' + k * 4 + 2, none⟩ = some (.int .i64 s.row.kind) ∧ w'.cell? ⟨g', o' + k * 4 + 3, none⟩ = some (.slice s.ao s.n s.cap)) (first | go_keep | (exact ⟨g2.cell e0 (fun h => h), g2.cell e1 (fun h => h), g2.cell r0 (fun h => h), g2.cell r1 (fun h => h), g2.cell r2 (fun h => h), g2.cell r3 (fun h => h), g2.cell s0 (fun h => h), g2.cell s1 (fun h => h), g2.cell s2 (fun h => h), g2.cell s3 (fun h => h)⟩))
            (first | (go_at_call 59; refine (same_ok r.row s.row r.ao s.ao r.n s.n r.cap s.cap wr.drew (RB.out.ext ((Ext.refl nob wr).drew) (fun _ _ h => h)) (SB.out.ext ((Ext.refl nob wr).drew) (fun _ _ h => h))).mono ?_; rintro e w2 ⟨rfl, g2⟩; have G2 := Lib.hid (Ext.undrew g2)))
          have HE2 : Hid (Ext nob w w2) := HE.out.trans' G2.out
          clear g2 gA gB
          go_wp2_with fail
          go_roundw
          case rel => exact ⟨k + 1, by go_num, by omega, FG2.out, HE2.out⟩
          case measure => simp [intOf]; omega
        · have hd : decide (r.row = s.row) = false := by simpa using hrs
          have FG2 : Hid (firstI A B = (k : Int)) := by
            have := FG.out
            rw [if_neg hrs] at this
            exact HF.out.symm.trans this
          clear hrs
          go_wp2_with fail
          go_region_held3 (fun w' => w'.cell? ⟨p, 0, none⟩ = some (.slice (some ⟨g, o, none⟩) A.length ca) ∧ w'.cell? ⟨q, 0, none⟩ = some (.slice (some ⟨g', o', none⟩) B.length cb) ∧ w'.cell? ⟨g, o + k * 4, none⟩ = some (.int .i64 r.row.step) ∧ w'.cell? ⟨g, o + k * 4 + 1, none⟩ = some (.int .i64 r.row.node) ∧ w'.cell? ⟨g, o + k * 4 + 2, none⟩ = some (.int .i64 r.row.kind) ∧ w'.cell? ⟨g, o + k * 4 + 3, none⟩ = some (.slice r.ao r.n r.cap) ∧ w'.cell? ⟨g', o' + k * 4, none⟩ = some (.int .i64 s.row.step) ∧ w'.cell? ⟨g', o' + k * 4 + 1, none⟩ = some (.int .i64 s.row.node) ∧ w'.cell? ⟨g', o' + k * 4 + 2, none⟩ = some (.int .i64 s.row.kind) ∧ w'.cell? ⟨g', o' + k * 4 + 3, none⟩ = some (.slice s.ao s.n s.cap)) (first | go_keep | (exact ⟨g2.cell e0 (fun h => h), g2.cell e1 (fun h => h), g2.cell r0 (fun h => h), g2.cell r1 (fun h => h), g2.cell r2 (fun h => h), g2.cell r3 (fun h => h), g2.cell s0 (fun h => h), g2.cell s1 (fun h => h), g2.cell s2 (fun h => h), g2.cell s3 (fun h => h)⟩))
            (first | (go_at_call 59; refine (same_ok r.row s.row r.ao s.ao r.n s.n r.cap s.cap wr.drew (RB.out.ext ((Ext.refl nob wr).drew) (fun _ _ h => h)) (SB.out.ext ((Ext.refl nob wr).drew) (fun _ _ h => h))).mono ?_; rintro e w2 ⟨rfl, g2⟩; have G2 := Lib.hid (Ext.undrew g2)))
          have HE2 : Hid (Ext nob w w2) := HE.out.trans' G2.out
          clear g2 gA gB
          go_wp2_with fail
          go_ret
          rw [FG2.out]
          exact ⟨rfl, HE2.out⟩
      · first
          | (exfalso; omega)
          | (have iA : (k : Int) < A.length := by omega
             have gA : decide (A.length ≤ k) = false := by simp; omega
             have gB : decide (B.length ≤ k) = true := by simp; omega
             have FG2 : Hid (firstI A B = (k : Int)) := by
               show _ = _
               rw [← HF.out, List.drop_eq_getElem_cons hkA, List.drop_eq_nil_of_le (show B.length ≤ k by omega), firstGo_l]
             clear hkA hkB
             go_wp2_with fail
             go_quiet (fail)
             go_wp2_with fail
             go_ret
             rw [FG2.out]
             exact ⟨rfl, HE.out.drewN _⟩)
    · by_cases hkB : k < B.length
      · first
          | (exfalso; omega)
          | (have iB : (k : Int) < B.length := by omega
             have gA : decide (A.length ≤ k) = true := by simp; omega
             have FG2 : Hid (firstI A B = (k : Int)) := by
               show _ = _
               rw [← HF.out, List.drop_eq_getElem_cons hkB, List.drop_eq_nil_of_le (show A.length ≤ k by omega), firstGo_r]
             clear hkA hkB
             go_wp2_with fail
             go_quiet (fail)
             go_wp2_with fail
             go_ret
             rw [FG2.out]
             exact ⟨rfl, HE.out.drewN _⟩)
      · have iA : ¬ (k : Int) < A.length := by omega
        have iB : ¬ (k : Int) < B.length := by omega
        have FG2 : Hid (firstI A B = -1) := by
          show _ = _
          rw [← HF.out, List.drop_eq_nil_of_le (show A.length ≤ k by omega), List.drop_eq_nil_of_le (show B.length ≤ k by omega), firstGo]
        clear hkA hkB
        go_wp2_with fail
        go_ret
        rw [FG2.out]
        exact ⟨rfl, HE.out⟩)
end Go.Proofs.YtfgfhfmhadondaaDoor
