/- sealchainlaw24.works -/
import Derived.Test.YtfgfhfmhadondaaDoorLaw24
import Derived.Deep.DeepCutAuto
import Derived.Laws.StructEq
import Derived.Stop.BytesEq
namespace Go.Proofs.YtfgfhfmhadondaaDoor
open Go.RowKit
set_option maxHeartbeats 400000

abbrev rA : RowS := ⟨1, 10, 1, [7]⟩
abbrev rB : RowS := ⟨3, 0, 2, [8, 9]⟩

theorem bytes_lit1 (w : World) (T : TypeId) (b0 : UInt8) : Bytes (w.alloc (.cells #[byt b0] T)) (some ⟨w.heap.size, 0, none⟩) 1 [b0] :=
  ⟨rfl, Rd.of_heap (blk_new w _) 0 (fun j u hj => by simpa using hj)⟩
theorem bytes_lit2 (w : World) (T : TypeId) (b0 b1 : UInt8) : Bytes (w.alloc (.cells #[byt b0, byt b1] T)) (some ⟨w.heap.size, 0, none⟩) 2 [b0, b1] :=
  ⟨rfl, Rd.of_heap (blk_new w _) 0 (fun j u hj => by simpa using hj)⟩

theorem blk_drew {w : World} {k : Nat} {o : Option Obj} (h : w.heap[k]? = o) : w.drew.heap[k]? = o := h
theorem blk_new1 (w : World) (x y : Obj) : ((w.alloc x).alloc y).heap[w.heap.size + 1]? = some y := by
  have := blk_new (w.alloc x) y
  rwa [World.size_alloc] at this
theorem blk_new2 (w : World) (x y z : Obj) : (((w.alloc x).alloc y).alloc z).heap[w.heap.size + 1 + 1]? = some z := by
  have := blk_new ((w.alloc x).alloc y) z
  rwa [World.size_alloc, World.size_alloc] at this

/-- of, at a list of rows that lies in a block of its own. -/
theorem of_list (w : World) (g : Nat) (xs : List RowV) (T : TypeId) (c : Nat) (cs : Array Value) (hg : w.heap[g]? = some (.cells cs T (0, 0))) (hcs : cs = (xs.flatMap RowV.cells).toArray) (hb : ∀ r ∈ xs, Bytes w r.ao r.n r.row.b) (hn : ∀ r ∈ xs, r.n ≤ big) (hx : xs.length ≤ big)
    (acc : List RowS) (ho : ofGo [] (xs.map RowV.row) = (0, acc)) (n : Nat) (hxn : xs.length = n) :
    Calls Tryd.prog 13 #[.slice (some ⟨g, 0, none⟩) n c] w fun e w' => ∃ q F', e = .returned (.pointer (some ⟨q, 0, none⟩)) ∧ ViewAt w' q acc F' ∧ (∀ k, F' k → w.heap.size ≤ k) ∧ Ext nob w w' := by
  subst hxn hcs
  refine (lof_ok (some ⟨g, 0, none⟩) xs.length c xs w ⟨rfl, Rd.of_heap hg 0 (fun j u hj => by simpa using hj), fun r hr => ⟨hb r hr, hn r hr⟩⟩ hx).mono ?_
  rintro e w' ⟨h1, h2⟩
  rw [ho] at h2
  obtain ⟨q, F', rfl, k1, k2⟩ := h2 rfl
  exact ⟨q, F', rfl, k1, k2, h1⟩

theorem ViewAt.apart {w w3 : World} {p : Nat} {L : List RowS} {F F3 : Nat → Prop} (v : ViewAt w p L F) (e : Ext nob w w3) (f : ∀ k, F3 k → w3.heap.size ≤ k) : ∀ k, F3 k → ¬ F k := by
  obtain ⟨_, _, _, _, _, _, _, _, _, h8⟩ := v
  intro k h3 h1
  have := h8 k h1
  have := f k h3
  have := e.size
  omega

theorem far_of {W w3 : World} {F3 : Nat → Prop} (f : ∀ k, F3 k → w3.heap.size ≤ k) (e : Ext nob W w3) : ∀ k, F3 k → W.heap.size ≤ k := fun k hk => Nat.le_trans e.size (f k hk)
theorem vbytes_lit (p : Nat) (L : List RowS) (F : Nat → Prop) (w : World) (hv : ViewAt w p L F) (hg : GoodV L) (l : List UInt8) (hl : viewB L = l) (n : Nat) (hn : l.length = n) :
    Calls Tryd.prog 16 #[.pointer (some ⟨p, 0, none⟩)] w fun e w' => ∃ ao cap, e = .returned (.slice ao n cap) ∧ Bytes w' ao n l ∧ Ext nob w w' := by
  subst hl hn
  refine (vbytes_ok p L F w hv hg).mono ?_
  rintro e w' ⟨v, rfl, o1, o2, o3⟩
  obtain ⟨ao, cap, rfl, r1, -⟩ := Own.shape o1
  exact ⟨ao, cap, rfl, ⟨rfl, r1⟩, o2⟩
theorem eqb_same (ao bo : Option Addr) (n c d : Nat) (a : List UInt8) (w : World) (ha : Bytes w ao n a) (hb : Bytes w bo n a) :
    Calls Tryd.prog 15 #[.slice ao n c, .slice bo n d] w fun e w' => e = .returned (.bool true) ∧ w = w' := by
  refine (eqb_ok ao bo n n c d a a w ha hb).mono ?_
  rintro e w' ⟨rfl, h⟩
  exact ⟨by simp, h⟩
theorem bytes_lit (w : World) (T : TypeId) (l : List UInt8) (n : Nat) (hn : l.length = n) (cs : Array Value) (hcs : cs = (l.map byt).toArray) : Bytes (w.alloc (.cells cs T)) (some ⟨w.heap.size, 0, none⟩) n l :=
  ⟨hn, Rd.of_heap (blk_new w _) 0 (fun j u hj => by rw [hcs]; simpa using hj)⟩
theorem vfirst_lit (p q : Nat) (A B : List RowS) (FA FB : Nat → Prop) (w : World) (ha : ViewAt w p A FA) (hb : ViewAt w q B FB) (hla : A.length ≤ 20000) (hlb : B.length ≤ 20000) (x : Int) (hx : firstI A B = x) :
    Calls Tryd.prog 17 #[.pointer (some ⟨p, 0, none⟩), .pointer (some ⟨q, 0, none⟩)] w fun e w' => e = .returned (.int .i64 x) ∧ Ext nob w w' := by
  subst hx
  exact vfirst_ok p q A B FA FB w ha hb hla hlb

set_option maxRecDepth 20000 in
set_option maxHeartbeats 4000000 in
theorem works24_ok (w : World) : Calls Tryd.prog 11 #[] w fun e w' => e = .returned (.bool true) ∧ Ext nob w w' := by
  go_enter Tryd.func11, Tryd.ntmps11
  go_wp2_with fail
  refine (lrow_ok _ _ _ _ _ _ _).mono ?_
  rintro e w1 ⟨rfl, e1⟩
  obtain ⟨x1, hx1⟩ : ∃ x1, x1 = w.heap.size := ⟨_, rfl⟩
  have B1 : Hid (Bytes w1 (some ⟨x1, 0, none⟩) 1 [7]) := by rw [hx1]; exact (bytes_lit1 w _ 7).ext e1 (fun _ _ h => h)
  have HE1 : Hid (Ext nob w w1) := ((Ext.refl nob w).alloc _).trans' e1
  rw [← hx1]
  clear e1 hx1
  go_wp2_with fail
  refine (lrow_ok _ _ _ _ _ _ _).mono ?_
  rintro e w2 ⟨rfl, e1⟩
  obtain ⟨x2, hx2⟩ : ∃ x2, x2 = w1.heap.size := ⟨_, rfl⟩
  have E2 : Hid (Ext nob w1 w2) := ((Ext.refl nob w1).alloc _).trans' e1
  have B2 : Hid (Bytes w2 (some ⟨x2, 0, none⟩) 2 [8, 9]) := by rw [hx2]; exact (bytes_lit2 w1 _ 8 9).ext e1 (fun _ _ h => h)
  have HE2 : Hid (Ext nob w w2) := HE1.out.trans' E2.out
  have B1' : Hid (Bytes w2 (some ⟨x1, 0, none⟩) 1 [7]) := B1.out.ext E2.out (fun _ _ h => h)
  rw [← hx2]
  clear e1 hx2 B1 HE1 E2
  go_upto_region 2 with fail
  obtain ⟨W, hW⟩ : ∃ W, W = (w2.alloc (.cells #[.int .i64 1, .int .i64 10, .int .i64 1, .slice (some ⟨x1, 0, none⟩) 1 1] 34)).alloc (.cells #[.int .i64 3, .int .i64 0, .int .i64 2, .slice (some ⟨x2, 0, none⟩) 2 2] 34) := ⟨_, rfl⟩
  obtain ⟨A, hA⟩ : ∃ A, A = w2.heap.size := ⟨_, rfl⟩
  obtain ⟨B, hB⟩ : ∃ B, B = w2.heap.size + 1 := ⟨_, rfl⟩
  have ka : W.heap[A]? = some (.cells #[.int .i64 1, .int .i64 10, .int .i64 1, .slice (some ⟨x1, 0, none⟩) 1 1] 34 (0, 0)) := by rw [hW, hA]; exact blk_alloc (blk_new w2 _) _
  have kb : W.heap[B]? = some (.cells #[.int .i64 3, .int .i64 0, .int .i64 2, .slice (some ⟨x2, 0, none⟩) 2 2] 34 (0, 0)) := by
    rw [hW, hB]
    have := blk_new (w2.alloc (.cells #[.int .i64 1, .int .i64 10, .int .i64 1, .slice (some ⟨x1, 0, none⟩) 1 1] 34)) (.cells #[.int .i64 3, .int .i64 0, .int .i64 2, .slice (some ⟨x2, 0, none⟩) 2 2] 34)
    rwa [World.size_alloc] at this
  have HW : Hid (Ext nob w W) := by rw [hW]; exact (HE2.out.alloc _).alloc _
  have BA : Hid (Bytes W (some ⟨x1, 0, none⟩) 1 [7]) := by rw [hW]; exact B1'.out.ext (((Ext.refl nob w2).alloc _).alloc _) (fun _ _ h => h)
  have BB : Hid (Bytes W (some ⟨x2, 0, none⟩) 2 [8, 9]) := by rw [hW]; exact B2.out.ext (((Ext.refl nob w2).alloc _).alloc _) (fun _ _ h => h)
  rw [← hW, ← hB, ← hA]
  obtain ⟨a0, a1, a2, a3, -, -, -, -, al⟩ := cells4 ka
  obtain ⟨b0, b1, b2, b3, -, -, -, -, bl⟩ := cells4 kb
  have KA := Lib.hid ka
  have KB := Lib.hid kb
  clear hW hA hB ka kb B2 HE2 B1'
  have HS : Hid (∀ w', Ext nob W w' → w'.cell? ⟨A, 0, none⟩ = some (.int .i64 1) ∧ w'.cell? ⟨A, 1, none⟩ = some (.int .i64 10) ∧ w'.cell? ⟨A, 2, none⟩ = some (.int .i64 1) ∧ w'.cell? ⟨A, 3, none⟩ = some (.slice (some ⟨x1, 0, none⟩) 1 1) ∧ w'.cell? ⟨B, 0, none⟩ = some (.int .i64 3) ∧ w'.cell? ⟨B, 1, none⟩ = some (.int .i64 0) ∧ w'.cell? ⟨B, 2, none⟩ = some (.int .i64 2) ∧ w'.cell? ⟨B, 3, none⟩ = some (.slice (some ⟨x2, 0, none⟩) 2 2)) := fun w' e => ⟨e.cell a0 (fun h => h), e.cell a1 (fun h => h), e.cell a2 (fun h => h), e.cell a3 (fun h => h), e.cell b0 (fun h => h), e.cell b1 (fun h => h), e.cell b2 (fun h => h), e.cell b3 (fun h => h)⟩
  have HWs : Hid (Ext nob W W) := Ext.refl _ _
  go_cut [3, 4, 5] (fun s3 s4 s5 wx => ∃ (q1 q2 q3 : Nat) (F1 F2 F3 : Nat → Prop), s3 = .pointer (some ⟨q1, 0, none⟩) ∧ s4 = .pointer (some ⟨q2, 0, none⟩) ∧ s5 = .pointer (some ⟨q3, 0, none⟩) ∧ ViewAt wx q1 [rA, rB] F1 ∧ ViewAt wx q2 [rA] F2 ∧ ViewAt wx q3 [rB] F3 ∧ (∀ k, F3 k → ¬ F1 k) ∧ (∀ k, F3 k → ¬ F2 k) ∧ (∀ k, F3 k → W.heap.size ≤ k) ∧ Ext nob W wx)
  case first =>
    go_region_held3 (fun w' => w'.cell? ⟨A, 0, none⟩ = some (.int .i64 1) ∧ w'.cell? ⟨A, 1, none⟩ = some (.int .i64 10) ∧ w'.cell? ⟨A, 2, none⟩ = some (.int .i64 1) ∧ w'.cell? ⟨A, 3, none⟩ = some (.slice (some ⟨x1, 0, none⟩) 1 1) ∧ w'.cell? ⟨B, 0, none⟩ = some (.int .i64 3) ∧ w'.cell? ⟨B, 1, none⟩ = some (.int .i64 0) ∧ w'.cell? ⟨B, 2, none⟩ = some (.int .i64 2) ∧ w'.cell? ⟨B, 3, none⟩ = some (.slice (some ⟨x2, 0, none⟩) 2 2)) (first | with_reducible exact HS.out _ EW3.out | with_reducible exact HS.out _ EW2.out | with_reducible exact HS.out _ EW1.out | with_reducible exact HS.out _ (EW2.out.alloc _) | with_reducible exact HS.out _ (EW1.out.alloc _) | with_reducible exact HS.out _ ((EW1.out.alloc _).alloc _) | with_reducible exact HS.out _ ((Ext.refl nob W).drew) | with_reducible exact HS.out _ (((Ext.refl nob W).alloc _).drew) | with_reducible exact HS.out _ (((Ext.refl nob W).drew).alloc _) | with_reducible exact HS.out _ ((((Ext.refl nob W).alloc _).alloc _).drew) | with_reducible exact HS.out _ ((((Ext.refl nob W).drew).alloc _).alloc _) | with_reducible exact HS.out _ (((((Ext.refl nob W).alloc _).alloc _).alloc _).drew) | with_reducible exact HS.out _ (((((Ext.refl nob W).drew).alloc _).alloc _).alloc _) | go_keep)
      (first
        | (have _ := V2; go_at_call 13; refine (of_list _ _ [⟨rB, some ⟨x2, 0, none⟩, 2, 2⟩] 34 _ ?csa ?h1a ?hcsa ?h2a ?h3a ?h4a [rB] ?h5a 1 rfl).mono ?_
           case h1a => (repeat (with_reducible first | exact blk_new _ _ | exact blk_new1 _ _ _ | exact blk_new2 _ _ _ _ | refine blk_alloc ?_ _ | refine blk_drew ?_ | refine EC2.out.blk ?_ (fun h => h) | refine EC1.out.blk ?_ (fun h => h)))
           case hcsa => rfl
           case h2a =>
            intro r hr; simp at hr; subst hr
            refine BB.out.ext ?_ (fun _ _ h => h); repeat (with_reducible first | exact Ext.refl _ _ | exact EW2.out | exact EW1.out | refine Ext.alloc ?_ _ | refine Ext.drew ?_)
           case h3a => (intro r hr; simp at hr; subst hr; simp [big])
           case h4a => simp [big]
           case h5a => rfl
           rintro e wc3 ⟨q3, F3, rfl, v3, f3, ec⟩
           have EW3 : Hid (Ext nob W wc3) := by
            refine Ext.trans' ?_ ec
            repeat (with_reducible first | exact Ext.refl _ _ | exact EW2.out | exact EW1.out | refine Ext.alloc ?_ _ | refine Ext.drew ?_)
           have EC3 := Lib.hid ec
           have V3 := Lib.hid v3
           have FF3 := Lib.hid f3
           clear v3 f3 ec)
        | (have _ := V1; go_at_call 13; refine (of_list _ _ [⟨rA, some ⟨x1, 0, none⟩, 1, 1⟩] 34 _ ?csb ?h1b ?hcsb ?h2b ?h3b ?h4b [rA] ?h5b 1 rfl).mono ?_
           case h1b => (repeat (with_reducible first | exact blk_new _ _ | exact blk_new1 _ _ _ | exact blk_new2 _ _ _ _ | refine blk_alloc ?_ _ | refine blk_drew ?_ | refine EC2.out.blk ?_ (fun h => h) | refine EC1.out.blk ?_ (fun h => h)))
           case hcsb => rfl
           case h2b =>
            intro r hr; simp at hr; subst hr
            refine BA.out.ext ?_ (fun _ _ h => h); repeat (with_reducible first | exact Ext.refl _ _ | exact EW2.out | exact EW1.out | refine Ext.alloc ?_ _ | refine Ext.drew ?_)
           case h3b => (intro r hr; simp at hr; subst hr; simp [big])
           case h4b => simp [big]
           case h5b => rfl
           rintro e wc2 ⟨q2, F2, rfl, v2, f2, ec⟩
           have EW2 : Hid (Ext nob W wc2) := by
            refine Ext.trans' ?_ ec
            repeat (with_reducible first | exact Ext.refl _ _ | exact EW2.out | exact EW1.out | refine Ext.alloc ?_ _ | refine Ext.drew ?_)
           have EC2 := Lib.hid ec
           have V2 := Lib.hid v2
           have FF2 := Lib.hid f2
           clear v2 f2 ec)
        | (go_at_call 13; refine (of_list _ _ [⟨rA, some ⟨x1, 0, none⟩, 1, 1⟩, ⟨rB, some ⟨x2, 0, none⟩, 2, 2⟩] 34 _ ?csc ?h1c ?hcsc ?h2c ?h3c ?h4c [rA, rB] ?h5c 2 rfl).mono ?_
           case h1c => (repeat (with_reducible first | exact blk_new _ _ | exact blk_new1 _ _ _ | exact blk_new2 _ _ _ _ | refine blk_alloc ?_ _ | refine blk_drew ?_ | refine EC2.out.blk ?_ (fun h => h) | refine EC1.out.blk ?_ (fun h => h)))
           case hcsc => rfl
           case h2c =>
            intro r hr; simp at hr; rcases hr with rfl | rfl
            · refine BA.out.ext ?_ (fun _ _ h => h); repeat (with_reducible first | exact Ext.refl _ _ | exact EW2.out | exact EW1.out | refine Ext.alloc ?_ _ | refine Ext.drew ?_)
            · refine BB.out.ext ?_ (fun _ _ h => h); repeat (with_reducible first | exact Ext.refl _ _ | exact EW2.out | exact EW1.out | refine Ext.alloc ?_ _ | refine Ext.drew ?_)
           case h3c => (intro r hr; simp at hr; rcases hr with rfl | rfl <;> simp [big])
           case h4c => simp [big]
           case h5c => rfl
           rintro e wc1 ⟨q1, F1, rfl, v1, f1, ec⟩
           have EW1 : Hid (Ext nob W wc1) := by
            refine Ext.trans' ?_ ec
            repeat (with_reducible first | exact Ext.refl _ _ | exact EW2.out | exact EW1.out | refine Ext.alloc ?_ _ | refine Ext.drew ?_)
           have EC1 := Lib.hid ec
           have V1 := Lib.hid v1
           have FF1 := Lib.hid f1
           clear v1 f1 ec))
    all_goals (
      go_wp2_with fail
      have E13 : Hid (Ext nob wc1 wc3) := by
        refine Ext.trans' ?_ EC3.out
        repeat (with_reducible first | exact Ext.refl _ _ | refine Ext.trans' ?_ EC2.out | refine Ext.alloc ?_ _ | refine Ext.drew ?_)
      have E23 : Hid (Ext nob wc2 wc3) := by
        refine Ext.trans' ?_ EC3.out
        repeat (with_reducible first | exact Ext.refl _ _ | refine Ext.alloc ?_ _ | refine Ext.drew ?_)
      have P31 : Hid (∀ k, F3 k → ¬ F1 k) := by
        refine V1.out.apart ?_ FF3.out
        repeat (with_reducible first | exact Ext.refl _ _ | refine Ext.trans' ?_ EC2.out | refine Ext.alloc ?_ _ | refine Ext.drew ?_)
      have P32 : Hid (∀ k, F3 k → ¬ F2 k) := by
        refine V2.out.apart ?_ FF3.out
        repeat (with_reducible first | exact Ext.refl _ _ | refine Ext.alloc ?_ _ | refine Ext.drew ?_)
      have P3W : Hid (∀ k, F3 k → W.heap.size ≤ k) := by
        refine far_of FF3.out ?_
        repeat (with_reducible first | exact Ext.refl _ _ | exact EW2.out | refine Ext.alloc ?_ _ | refine Ext.drew ?_)
      go_meet
      exact ⟨q1, q2, q3, F1, F2, F3, rfl, rfl, rfl, V1.out.ext E13.out (fun _ _ h => h), V2.out.ext E23.out (fun _ _ h => h), V3.out, P31.out, P32.out, P3W.out, EW3.out⟩)
  case rest =>
    obtain ⟨q1, q2, q3, F1, F2, F3, rfl, rfl, rfl, v1, v2, v3, p31, p32, p3w, ew⟩ := hcut
    have hAl : A < W.heap.size := blk_lt KA.out
    have hAs : Hid (¬ F3 A) := fun h => by have := p3w A h; omega
    obtain ⟨e0, e1, e2, e3, e4, e5, e6, e7⟩ := HS.out _ ew
    have V1 := Lib.hid v1
    have V2 := Lib.hid v2
    have V3 := Lib.hid v3
    have P31 := Lib.hid p31
    have P32 := Lib.hid p32
    have P3W := Lib.hid p3w
    have EW := Lib.hid ew
    have g12 : GoodV [rA, rB] := ⟨by decide, ⟨by decide, by decide, trivial⟩, by decide⟩
    have G12 := Lib.hid g12
    clear v1 v2 v3 p31 p32 p3w ew g12 hAl HS
    go_wp2_with fail
    refine (vnew_ok _).mono ?_
    rintro e w5 ⟨rfl, n1, n2⟩
    obtain ⟨qn, hqn⟩ : ∃ qn, qn = wc.heap.size := ⟨_, rfl⟩
    rw [← hqn] at n1 ⊢
    have N1 := Lib.hid n1
    have X5 := Lib.hid n2
    clear n1 n2 hqn
    go_wp2_with fail
    refine (vbytes_lit qn [] _ _ N1.out GoodV.nil [0] (by decide) 1 rfl).mono ?_
    rintro e w6 ⟨ao, cap, rfl, b6, x6⟩
    have B6 := Lib.hid b6
    have X6 : Hid (Ext nob wc w6) := X5.out.trans' x6
    clear b6 x6 X5 N1
    go_wp2_with fail
    refine (eqb_same ao _ 1 _ _ [0] _ (B6.out.ext ((Ext.refl nob w6).alloc _) (fun _ _ h => h)) (bytes_lit w6 _ [0] 1 rfl _ rfl)).mono ?_
    rintro e w7 ⟨rfl, hw7⟩
    have X7 : Hid (Ext nob wc w7) := by rw [← hw7]; exact X6.out.alloc _
    clear hw7 X6 B6
    go_wp2_with fail
    refine (vbytes_lit q1 [rA, rB] F1 _ (V1.out.ext X7.out (fun _ _ h => h)) G12.out [2, 1, 10, 1, 1, 7, 2, 0, 2, 2, 8, 9] (by decide) 12 rfl).mono ?_
    rintro e w8 ⟨ao2, cap2, rfl, b8, x8⟩
    have B8 := Lib.hid b8
    have X8 : Hid (Ext nob wc w8) := X7.out.trans' x8
    clear b8 x8 X7
    go_wp2_with fail
    refine (eqb_same ao2 _ 12 _ _ [2, 1, 10, 1, 1, 7, 2, 0, 2, 2, 8, 9] _ (B8.out.ext ((Ext.refl nob w8).alloc _) (fun _ _ h => h)) (bytes_lit w8 _ [2, 1, 10, 1, 1, 7, 2, 0, 2, 2, 8, 9] 12 rfl _ rfl)).mono ?_
    rintro e w9 ⟨rfl, hw9⟩
    have X9 : Hid (Ext nob wc w9) := by rw [← hw9]; exact X8.out.alloc _
    clear hw9 X8 B8
    have f0 := X9.out.cell e0 (fun h => h)
    have f1 := X9.out.cell e1 (fun h => h)
    have f2 := X9.out.cell e2 (fun h => h)
    have f3 := X9.out.cell e3 (fun h => h)
    have V1' : Hid (ViewAt w9 q1 [rA, rB] F1) := V1.out.ext X9.out (fun _ _ h => h)
    have V2' : Hid (ViewAt w9 q2 [rA] F2) := V2.out.ext X9.out (fun _ _ h => h)
    have V3' : Hid (ViewAt w9 q3 [rB] F3) := V3.out.ext X9.out (fun _ _ h => h)
    have BA' : Hid (Bytes w9 (some ⟨x1, 0, none⟩) 1 [7]) := (BA.out.ext EW.out (fun _ _ h => h)).ext X9.out (fun _ _ h => h)
    have XW : Hid (Ext nob w w9) := (HW.out.trans' EW.out).trans' X9.out
    have hFW : Hid (∀ i, i < w.heap.size → F3 i → nob i) := fun i hi h => by
      have h1 := P3W.out i h
      have h2 := HW.out.size
      omega
    have hx1 : Hid (¬ F3 x1) := fun h => by
      have h1 := P3W.out x1 h
      have h2 := BA.out.lt (by omega) x1 ⟨_, rfl, rfl⟩
      omega
    clear e0 e1 e2 e3 e4 e5 e6 e7 V1 V2 V3 X9
    go_wp2_with fail
    refine (vadd_ok q3 [rB] F3 rA (some ⟨x1, 0, none⟩) 1 1 _ V3'.out BA'.out (by simp [big]) (by simp)).mono ?_
    have hadd : addE [rB] rA = 2 := by decide
    have haddL : addL [rB] rA = [rB] := by decide
    rw [hadd, haddL]
    clear hadd haddL
    rintro e w10 ⟨rfl, ⟨F4, u1, -⟩, u2⟩
    have V1b : Hid (ViewAt w10 q1 [rA, rB] F1) := V1'.out.ext u2 (fun k h h3 => P31.out k h3 h)
    have V2b : Hid (ViewAt w10 q2 [rA] F2) := V2'.out.ext u2 (fun k h h3 => P32.out k h3 h)
    have V3b : Hid (ViewAt w10 q3 [rB] F4) := Lib.hid u1
    have BAb : Hid (Bytes w10 (some ⟨x1, 0, none⟩) 1 [7]) := BA'.out.ext u2 (fun k h h3 => by
      obtain ⟨a, ha, hb⟩ := h
      cases ha
      exact hx1.out (by rw [show x1 = k from hb]; exact h3))
    have XWb : Hid (Ext nob w w10) := XW.out.trans u2 hFW.out
    have g0 := u2.cell f0 hAs.out
    have g1 := u2.cell f1 hAs.out
    have g2 := u2.cell f2 hAs.out
    have g3 := u2.cell f3 hAs.out
    clear u1 u2 f0 f1 f2 f3 V1' V2' V3' BA' XW P31 P32 P3W hFW hx1 hAs
    go_wp2_with fail
    refine (vfirst_lit q1 q2 [rA, rB] [rA] F1 F2 _ V1b.out V2b.out (by simp) (by simp) 1 (by decide)).mono ?_
    rintro e w11 ⟨rfl, u11⟩
    have X11 := Lib.hid u11
    clear u11
    go_wp2_with fail
    refine (vfirst_lit q1 q3 [rA, rB] [rB] F1 F4 _ (V1b.out.ext X11.out (fun _ _ h => h)) (V3b.out.ext X11.out (fun _ _ h => h)) (by simp) (by simp) 0 (by decide)).mono ?_
    rintro e w12 ⟨rfl, u12⟩
    have X12 : Hid (Ext nob w10 w12) := X11.out.trans' u12
    have h0 := X12.out.cell g0 (fun h => h)
    have h1 := X12.out.cell g1 (fun h => h)
    have h2 := X12.out.cell g2 (fun h => h)
    have h3 := X12.out.cell g3 (fun h => h)
    have BAc : Hid (Bytes w12 (some ⟨x1, 0, none⟩) 1 [7]) := BAb.out.ext X12.out (fun _ _ h => h)
    clear u12 X11 g0 g1 g2 g3
    go_wp2_with fail
    refine (of_list _ _ [⟨rA, some ⟨x1, 0, none⟩, 1, 1⟩] 34 _ _ (blk_new _ _) rfl ?hb5 ?hn5 (by simp [big]) [rA] rfl 1 rfl).mono ?_
    case hb5 => intro r hr; simp at hr; subst hr; exact BAc.out.ext ((Ext.refl nob _).alloc _) (fun _ _ h => h)
    case hn5 => intro r hr; simp at hr; subst hr; simp [big]
    rintro e w13 ⟨q5, F5, rfl, v5, -, u13⟩
    have V5 := Lib.hid v5
    have X13 : Hid (Ext nob w10 w13) := (X12.out.alloc _).trans' u13
    clear v5 u13 X12 BAc h0 h1 h2 h3
    go_wp2_with fail
    refine (vfirst_lit q2 q5 [rA] [rA] F2 F5 _ (V2b.out.ext X13.out (fun _ _ h => h)) V5.out (by simp) (by simp) (-1) (by decide)).mono ?_
    rintro e w14 ⟨rfl, u14⟩
    have X14 : Hid (Ext nob w10 w14) := X13.out.trans' u14
    clear u14 X13
    go_wp2_with fail
    refine (vmany_ok q1 [rA, rB] F1 10 _ (V1b.out.ext X14.out (fun _ _ h => h)) (by decide) (by simp)).mono ?_
    have hk1 : kindN (([rA, rB] : List RowS).filter (fun r => r.node == 10)) 1 = 1 := by decide
    have hk2 : kindN (([rA, rB] : List RowS).filter (fun r => r.node == 10)) 2 = 0 := by decide
    have hk3 : kindN (([rA, rB] : List RowS).filter (fun r => r.node == 10)) 3 = 0 := by decide
    rw [hk1, hk2, hk3]
    clear hk1 hk2 hk3
    have hm : Tryd.prog.eqGuardType Tryd.prog.depth 56 = false := by kernel_rfl
    have hq : ∀ w, (Op.equalIn 10000 56 (.agg #[.int .i64 1, .int .i64 0, .int .i64 0]) (.agg #[.int .i64 1, .int .i64 0, .int .i64 0])).run Tryd.prog w = .ok true w := fun w => by kernel_rfl
    rintro e w15 ⟨rfl, u15⟩
    have X15 : Hid (Ext nob w w15) := (XWb.out.trans' X14.out).trans' u15
    clear u15 X14
    go_wp2_with fail
    go_ret
    exact ⟨rfl, X15.out⟩
end Go.Proofs.YtfgfhfmhadondaaDoor
