/- sealchainlaw10.works -/
import Derived.Test.YtfgfhfmhadondaaDoorMarkK
import Derived.Test.YtfgfhfmhadondaaDoorLaw0
namespace Go.Proofs.YtfgfhfmhadondaaDoor
open Go.RowKit Go.Maps
set_option maxHeartbeats 400000

theorem mblk2 (w : World) (x y z : Obj) : (((w.alloc x).alloc y).alloc z).heap[w.heap.size + 1 + 1]? = some z := by
  have := blk_new ((w.alloc x).alloc y) z
  rwa [World.size_alloc, World.size_alloc] at this
/-- A guarded load of a whole row, where its guard lets it run. -/
theorem wpList_load_rowG {P : Program} {ops : Array Oper} {rest : List Oper} {o : Oper} {a : Act} {w : World} {Q : Exit → Act → World → Prop} (hw : Region.wanted o (yielded ops a.tmps) = true) (ty : TypeId) (x : Operand) (ho : o.op = .load ty x)
    (g : Nat) (hx : a.eval x = .pointer (some ⟨g, 0, none⟩)) (t : TypeId) (cs : Array Value) (fr : Nat × Nat) (d : TypeDesc) (hg : w.heap[g]? = some (.cells cs t fr))
    (hu : P.underlying ty = some d) (hd : (match d with | .struct _ | .array _ _ => true | _ => false) = true) (hi : (P.info? ty).map (·.size) = some cs.size)
    (h : wpList P ops Q rest (a.put o.dst (.agg cs)) w) : wpList P ops Q (o :: rest) a w :=
  wpList_step fun K hK => by rw [if_pos hw]; exact wp_load_row ty x ho g hx t cs fr d hg hu hd hi (hK _ _ h)
theorem eqb_same10 (ao bo : Option Addr) (n c d : Nat) (a : List UInt8) (w : World) (ha : Bytes w ao n a) (hb : Bytes w bo n a) :
    Calls Tryd.prog 15 #[.slice ao n c, .slice bo n d] w fun e w' => e = .returned (.bool true) ∧ w = w' := by
  refine (eqb_ok ao bo n n c d a a w ha hb).mono ?_
  rintro e w' ⟨rfl, h⟩
  exact ⟨by simp, h⟩
theorem bytes_lit10 (w : World) (T : TypeId) (l : List UInt8) (n : Nat) (hn : l.length = n) (cs : Array Value) (hcs : cs = (l.map byt).toArray) : Bytes (w.alloc (.cells cs T)) (some ⟨w.heap.size, 0, none⟩) n l :=
  ⟨hn, Rd.of_heap (blk_new w _) 0 (fun j u hj => by rw [hcs]; simpa using hj)⟩
theorem mbytes_lit1 (w : World) (T : TypeId) (b0 : UInt8) : Bytes (w.alloc (.cells #[byt b0] T)) (some ⟨w.heap.size, 0, none⟩) 1 [b0] :=
  ⟨rfl, Rd.of_heap (blk_new w _) 0 (fun j u hj => by simpa using hj)⟩
theorem name1_ok (w : World) : Calls Tryd.prog 30 #[.int .u8 1] w fun e w' => e = .returned (nameV n1) ∧ Ext nob w w' := name_ok 1 w
theorem bytes_nil' (w : World) : Bytes w none 0 [] := ⟨rfl, fun j u h => by simp at h⟩
theorem n1_len : n1.length = 32 := rfl
theorem mjudge_lit (p b life epoch : Nat) (D : DataW Unit) (n : List UInt8) (hn : n.length = 32) (v : Int) (ao : Option Addr) (m c : Nat) (env : List UInt8) (x : Int) (w : World) (hx : (judgeE D n v env : Int) = x) (h : MarksAt w p b life epoch D) (hb : Bytes w ao m env) (hm : m + 80 ≤ big) (hG : Laid w) :
    Calls Tryd.prog 29 #[.pointer (some ⟨p, 0, none⟩), nameV n, .int .i64 v, .slice ao m c] w fun e w' => e = .returned (.int .i64 x) ∧ Ext nob w w' := by
  subst hx
  exact mjudge_ok p b life epoch D n hn v ao m c env w h hb hm hG
theorem mnote_lit (p b life epoch : Nat) (D D' : DataW Unit) (n : List UInt8) (hn : n.length = 32) (v : Int) (ao : Option Addr) (m c : Nat) (env : List UInt8) (x : Int) (w : World) (hx : (noteE D n v env : Int) = x) (hD : noteD D n v env = D') (h : MarksAt w p b life epoch D) (hs : Maps.size D ≤ 64) (hb : Bytes w ao m env) (hm : m + 80 ≤ big) (hG : Laid w) :
    Calls Tryd.prog 31 #[.pointer (some ⟨p, 0, none⟩), nameV n, .int .i64 v, .slice ao m c] w fun e w' => e = .returned (.int .i64 x) ∧ MarksAt w' p b life epoch D' ∧ Ext (fun k => k = b) w w' := by
  subst hx hD
  exact mnote_ok p b life epoch D n hn v ao m c env w h hs hb hm hG
theorem mraise_lit (p b life epoch epoch' : Nat) (D : DataW Unit) (x y : Int) (w : World) (hy : (raiseE epoch x : Int) = y) (he : (if raiseE epoch x = 0 then x.toNat else epoch) = epoch') (h : MarksAt w p b life epoch D) :
    Calls Tryd.prog 39 #[.pointer (some ⟨p, 0, none⟩), .int .i64 x] w fun e w' => e = .returned (.int .i64 y) ∧ MarksAt w' p b life epoch' D ∧ Ext (fun k => k = p) w w' := by
  subst hy he
  exact mraise_ok p b life epoch D x w h
theorem mbytes0 (p b : Nat) (w : World) (h : MarksAt w p b 0 0 D0) :
    Calls Tryd.prog 33 #[.pointer (some ⟨p, 0, none⟩)] w fun e w' => ∃ ao cap, e = .returned (.slice ao 3 cap) ∧ Bytes w' ao 3 [0, 0, 0] ∧ Ext nob w w' := by
  refine (mbytesD_ok p b 0 0 D0 w h goodD0.size (by omega) (by omega) goodD0.ver).mono ?_
  rintro e w' ⟨ao, n, cap, rfl, hb, he, -⟩
  rw [marksB0] at hb
  have hn : n = 3 := hb.1.symm
  subst hn
  exact ⟨ao, cap, rfl, hb, he⟩
theorem mborn_lit (p b life epoch : Nat) (D : DataW Unit) (w : World) (h : MarksAt w p b life epoch D) (hl : life < 1048576) :
    Calls Tryd.prog 38 #[.pointer (some ⟨p, 0, none⟩)] w fun e w' => e = .returned (.tuple #[.int .i64 ((life + 1 : Nat) : Int), .int .i64 0]) ∧ MarksAt w' p b (life + 1) epoch D ∧ Ext (fun k => k = p) w w' := by
  refine (mborn_ok p b life epoch D w h (by omega)).mono ?_
  rw [if_neg (by omega), if_neg (by omega), if_neg (by omega)]
  exact fun e w' h => h

set_option maxRecDepth 20000 in
set_option maxHeartbeats 4000000 in
theorem works10_ok (w : World) (hG : Laid w) : Calls Tryd.prog 25 #[] w fun e w' => e = .returned (.bool true) ∧ Ext nob w w' := by
  have HG := Lib.hid hG
  clear hG
  have hi60 : (Tryd.prog.info? 60).map (·.size) = some (n1.map byt).toArray.size := by kernel_rfl
  have hone60 : (n1.map byt).toArray.all (·.oneCell') = true := all_oneCell_toArray (fun u hu => oneCell_byt _ u hu)
  have hu60 := Tryd.underlying60
  have hn1 : n1.length = 32 := rfl
  go_enter Tryd.func25, Tryd.ntmps25
  go_wp2_with fail
  refine (mnew_ok _).mono ?_
  rintro e w1 ⟨rfl, m1, e1⟩
  obtain ⟨b, hb⟩ : ∃ b, b = w.heap.size := ⟨_, rfl⟩
  obtain ⟨p, hp⟩ : ∃ p, p = w.heap.size + 1 := ⟨_, rfl⟩
  rw [← hp, ← hb] at m1
  rw [← hp]
  have HB : Hid (w.heap.size ≤ b) := by rw [hb]; exact Nat.le_refl _
  have HP : Hid (w.heap.size ≤ p) := by rw [hp]; exact Nat.le_succ _
  have M1 := Lib.hid m1
  have E1 := Lib.hid e1
  clear m1 e1 hb hp
  go_wp2_with fail
  refine (name1_ok _).mono ?_
  rintro e w2 ⟨rfl, e2⟩
  have E2 := Lib.hid e2
  clear e2
  go_upto_region 3 with (first
    | (refine wpList_store_new rfl 60 (.tmp 2) (.tmp 12) rfl _ (n1.map byt).toArray rfl rfl 60 _ (mblk2 _ _ _ _) hi60 rfl hone60 ?_; intro w3 k3 e3; have K3 := Lib.hid k3; have E3 := Lib.hid e3; clear k3 e3)
    | fail)
  obtain ⟨g, hg⟩ : ∃ g, g = w2.heap.size + 1 + 1 := ⟨_, rfl⟩
  obtain ⟨ga, hga⟩ : ∃ ga, ga = w2.heap.size := ⟨_, rfl⟩
  obtain ⟨gb, hgb⟩ : ∃ gb, gb = w2.heap.size + 1 := ⟨_, rfl⟩
  have BA : Hid (Bytes w3 (some ⟨ga, 0, none⟩) 1 [1]) := by
    rw [hga]
    exact ((mbytes_lit1 w2 5 1).ext (((Ext.refl nob _).alloc _).alloc _) (fun _ _ h => h)).ext E3.out (fun k h h3 => by obtain ⟨a, ha, hb⟩ := h; cases ha; have h4 : w2.heap.size = k := hb; have h5 : k = w2.heap.size + 1 + 1 := h3; omega)
  have BB : Hid (Bytes w3 (some ⟨gb, 0, none⟩) 1 [2]) := by
    rw [hgb]
    have h1 := mbytes_lit1 (w2.alloc (.cells #[byt 1] 5)) 5 2
    rw [World.size_alloc] at h1
    exact (h1.ext ((Ext.refl nob _).alloc _) (fun _ _ h => h)).ext E3.out (fun k h h3 => by obtain ⟨a, ha, hb⟩ := h; cases ha; have h4 : w2.heap.size + 1 = k := hb; have h5 : k = w2.heap.size + 1 + 1 := h3; omega)
  have X13 : Hid (Ext nob w1 w3) := E2.out.trans (((((Ext.refl nob w2).alloc _).alloc _).alloc _).trans E3.out (fun i hi h => absurd hi (by rw [h]; omega))) (fun i hi h => h)
  have HLT : Hid (b < ga ∧ b < gb ∧ b < g) := by
    have h1 := M1.out.2.1.lt
    have h2 := E2.out.size
    rw [hg, hga, hgb]
    exact ⟨by omega, by omega, by omega⟩
  rw [← hg, ← hgb, ← hga]
  have KG : Hid (w3.heap[g]? = some (.cells (n1.map byt).toArray 60 (0, 0))) := by rw [hg]; exact K3.out
  have MA : Hid (MarksAt w3 p b 0 0 D0) := M1.out.ext X13.out (fun h => h) (fun h => h)
  have EA : Hid (Ext nob w w3) := E1.out.trans' X13.out
  clear E3 hg hga hgb K3 X13 M1 E1 E2
  go_wp2_with (first
    | (refine wpList_load_rowG (by rfl) 60 (.tmp 2) rfl g rfl 60 (n1.map byt).toArray (0, 0) _ KG.out hu60 rfl hi60 ?_)
    | fail)
  refine (mjudge_lit p b 0 0 D0 n1 hn1 0 none 0 0 [] 0 _ (by rw [j_0]; rfl) MA.out (Bytes.nil _ _) (by simp [big]) (HG.out.ext EA.out (fun h => h) (fun h => h))).mono ?_
  rintro e w4 ⟨rfl, x⟩
  have X := Lib.hid x
  have KG := Lib.hid (X.out.blk KG.out (fun h => h))
  have MA := Lib.hid (MA.out.ext X.out (fun h => h) (fun h => h))
  have BA := Lib.hid (BA.out.ext X.out (fun _ _ h => h))
  have BB := Lib.hid (BB.out.ext X.out (fun _ _ h => h))
  have EA := Lib.hid (EA.out.trans' X.out)
  clear x X
  go_wp2_with (first
    | (refine wpList_load_rowG (by rfl) 60 (.tmp 2) rfl g rfl 60 (n1.map byt).toArray (0, 0) _ KG.out hu60 rfl hi60 ?_)
    | fail)
  refine (mnote_lit p b 0 0 D0 D1 n1 hn1 3 (some ⟨ga, 0, none⟩) 1 1 [1] 0 _ (by rw [n_03]; rfl) d_03 MA.out goodD0.size BA.out (by simp [big]) (HG.out.ext EA.out (fun h => h) (fun h => h))).mono ?_
  rintro e w5 ⟨rfl, m5, x⟩
  have X := Lib.hid x
  have KG := Lib.hid (X.out.blk KG.out (fun h => by have h1 := HLT.out; have h2 : g = b := h; omega))
  have MA := Lib.hid m5
  have BA := Lib.hid (BA.out.ext X.out (fun k h h3 => by obtain ⟨a, ha, hb⟩ := h; cases ha; have h4 : ga = k := hb; have h5 : k = b := h3; have h1 := HLT.out; omega))
  have BB := Lib.hid (BB.out.ext X.out (fun k h h3 => by obtain ⟨a, ha, hb⟩ := h; cases ha; have h4 : gb = k := hb; have h5 : k = b := h3; have h1 := HLT.out; omega))
  have EA : Hid (Ext nob w w5) := EA.out.trans X.out (fun i hi h => by have h1 := HB.out; have h2 : i = b := h; omega)
  clear x X m5
  go_wp2_with (first
    | (refine wpList_load_rowG (by rfl) 60 (.tmp 2) rfl g rfl 60 (n1.map byt).toArray (0, 0) _ KG.out hu60 rfl hi60 ?_)
    | fail)
  refine (mjudge_lit p b 0 0 D1 n1 hn1 2 (some ⟨gb, 0, none⟩) 1 1 [2] 100 _ (by rw [j_2]; rfl) MA.out BB.out (by simp [big]) (HG.out.ext EA.out (fun h => h) (fun h => h))).mono ?_
  rintro e w6 ⟨rfl, x⟩
  have X := Lib.hid x
  have KG := Lib.hid (X.out.blk KG.out (fun h => h))
  have MA := Lib.hid (MA.out.ext X.out (fun h => h) (fun h => h))
  have BA := Lib.hid (BA.out.ext X.out (fun _ _ h => h))
  have BB := Lib.hid (BB.out.ext X.out (fun _ _ h => h))
  have EA := Lib.hid (EA.out.trans' X.out)
  clear x X
  go_wp2_with (first
    | (refine wpList_load_rowG (by rfl) 60 (.tmp 2) rfl g rfl 60 (n1.map byt).toArray (0, 0) _ KG.out hu60 rfl hi60 ?_)
    | fail)
  refine (mjudge_lit p b 0 0 D1 n1 hn1 3 (some ⟨gb, 0, none⟩) 1 1 [2] 101 _ (by rw [j_32]; rfl) MA.out BB.out (by simp [big]) (HG.out.ext EA.out (fun h => h) (fun h => h))).mono ?_
  rintro e w7 ⟨rfl, x⟩
  have X := Lib.hid x
  have KG := Lib.hid (X.out.blk KG.out (fun h => h))
  have MA := Lib.hid (MA.out.ext X.out (fun h => h) (fun h => h))
  have BA := Lib.hid (BA.out.ext X.out (fun _ _ h => h))
  have BB := Lib.hid (BB.out.ext X.out (fun _ _ h => h))
  have EA := Lib.hid (EA.out.trans' X.out)
  clear x X
  go_wp2_with (first
    | (refine wpList_load_rowG (by rfl) 60 (.tmp 2) rfl g rfl 60 (n1.map byt).toArray (0, 0) _ KG.out hu60 rfl hi60 ?_)
    | fail)
  refine (mjudge_lit p b 0 0 D1 n1 hn1 3 (some ⟨ga, 0, none⟩) 1 1 [1] 0 _ (by rw [j_31]; rfl) MA.out BA.out (by simp [big]) (HG.out.ext EA.out (fun h => h) (fun h => h))).mono ?_
  rintro e w8 ⟨rfl, x⟩
  have X := Lib.hid x
  have KG := Lib.hid (X.out.blk KG.out (fun h => h))
  have MA := Lib.hid (MA.out.ext X.out (fun h => h) (fun h => h))
  have BA := Lib.hid (BA.out.ext X.out (fun _ _ h => h))
  have BB := Lib.hid (BB.out.ext X.out (fun _ _ h => h))
  have EA := Lib.hid (EA.out.trans' X.out)
  clear x X
  go_wp2_with (first
    | (refine wpList_load_rowG (by rfl) 60 (.tmp 2) rfl g rfl 60 (n1.map byt).toArray (0, 0) _ KG.out hu60 rfl hi60 ?_)
    | fail)
  refine (mjudge_lit p b 0 0 D1 n1 hn1 0 none 0 0 [] 100 _ (by rw [j_10]; rfl) MA.out (Bytes.nil _ _) (by simp [big]) (HG.out.ext EA.out (fun h => h) (fun h => h))).mono ?_
  rintro e w9 ⟨rfl, x⟩
  have X := Lib.hid x
  have KG := Lib.hid (X.out.blk KG.out (fun h => h))
  have MA := Lib.hid (MA.out.ext X.out (fun h => h) (fun h => h))
  have BA := Lib.hid (BA.out.ext X.out (fun _ _ h => h))
  have BB := Lib.hid (BB.out.ext X.out (fun _ _ h => h))
  have EA := Lib.hid (EA.out.trans' X.out)
  clear x X
  clear KG MA BA BB HLT HB HP
  go_wp2_with fail
  refine (mnew_ok _).mono ?_
  rintro e w10 ⟨rfl, m10, x10⟩
  obtain ⟨b2, hb⟩ : ∃ b2, b2 = w9.heap.size := ⟨_, rfl⟩
  obtain ⟨p2, hp⟩ : ∃ p2, p2 = w9.heap.size + 1 := ⟨_, rfl⟩
  rw [← hp, ← hb] at m10
  rw [← hp]
  have HP : Hid (w9.heap.size ≤ p2) := by rw [hp]; exact Nat.le_succ _
  have M10 := Lib.hid m10
  have X10 := Lib.hid x10
  clear m10 x10 hb hp
  go_wp2_with fail
  refine (mbytes0 p2 b2 _ M10.out).mono ?_
  rintro e w11 ⟨ao, cap, rfl, b11, x11⟩
  have B11 := Lib.hid b11
  have X11 := Lib.hid x11
  clear b11 x11
  go_wp2_with fail
  refine (eqb_same10 ao _ 3 _ _ [0, 0, 0] _ (B11.out.ext ((Ext.refl nob w11).alloc _) (fun _ _ h => h)) (bytes_lit10 w11 _ [0, 0, 0] 3 rfl _ rfl)).mono ?_
  rintro e w12 ⟨rfl, hw12⟩
  have X12 : Hid (Ext nob w10 w12) := by rw [← hw12]; exact X11.out.alloc _
  have M12 : Hid (MarksAt w12 p2 b2 0 0 D0) := M10.out.ext X12.out (fun h => h) (fun h => h)
  have E12 : Hid (Ext nob w9 w12) := X10.out.trans' X12.out
  clear hw12 X11 B11 M10 X10 X12
  go_wp2_with fail
  refine (mborn_lit p2 b2 0 0 D0 _ M12.out (by omega)).mono ?_
  rintro e w13 ⟨rfl, m13, x13⟩
  have M13 := Lib.hid m13
  have E13 : Hid (Ext nob w9 w13) := E12.out.trans x13 (fun i hi h => by have h1 := HP.out; have h2 : i = p2 := h; omega)
  clear m13 x13 M12 E12
  go_wp2_with fail
  refine (mborn_lit p2 b2 1 0 D0 _ M13.out (by omega)).mono ?_
  rintro e w14 ⟨rfl, m14, x14⟩
  have M14 := Lib.hid m14
  have E14 : Hid (Ext nob w9 w14) := E13.out.trans x14 (fun i hi h => by have h1 := HP.out; have h2 : i = p2 := h; omega)
  clear m14 x14 M13 E13
  go_wp2_with fail
  refine (mraise_lit p2 b2 2 0 2 D0 2 0 _ (by decide) (by decide) M14.out).mono ?_
  rintro e w15 ⟨rfl, m15, x15⟩
  have M15 := Lib.hid m15
  have E15 : Hid (Ext nob w9 w15) := E14.out.trans x15 (fun i hi h => by have h1 := HP.out; have h2 : i = p2 := h; omega)
  clear m15 x15 M14 E14
  go_wp2_with fail
  refine (mraise_lit p2 b2 2 2 2 D0 1 170 _ (by decide) (by decide) M15.out).mono ?_
  rintro e w16 ⟨rfl, -, x16⟩
  have E16 : Hid (Ext nob w9 w16) := E15.out.trans x16 (fun i hi h => by have h1 := HP.out; have h2 : i = p2 := h; omega)
  clear x16 M15 E15
  go_wp2_with fail
  go_ret
  exact ⟨rfl, EA.out.trans' E16.out⟩
end Go.Proofs.YtfgfhfmhadondaaDoor
