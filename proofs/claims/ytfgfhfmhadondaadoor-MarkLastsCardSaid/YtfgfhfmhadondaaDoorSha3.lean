/- sha: the digest. -/
import Derived.Test.YtfgfhfmhadondaaDoorSha2
namespace Go.Proofs.YtfgfhfmhadondaaDoor
open Go.RowKit
set_option maxHeartbeats 400000

def padK (n : Nat) : Nat := (119 - n % 64) % 64
def lenB (n : Nat) : Nat → List UInt8
  | 0 => []
  | i + 1 => lenB n i ++ [UInt8.ofNat (n * 8 / 2 ^ (56 - 8 * i))]
theorem lenB_len (n : Nat) : ∀ i, (lenB n i).length = i
  | 0 => rfl
  | i + 1 => by simp [lenB, lenB_len n i]
def padB (n : Nat) : List UInt8 := 128 :: List.replicate (padK n) 0 ++ lenB n 8
theorem padB_len (n : Nat) : (padB n).length = padK n + 9 := by simp [padB, lenB_len]
/-- The words of a text's digest. -/
def shaS (l : List UInt8) : S8 := fold firstS ((l ++ padB l.length).length / 64) (l ++ padB l.length)
def S8.list (s : S8) : List Int := [s.a, s.b, s.c, s.d, s.e, s.f, s.g, s.h]
def digest (s : S8) : Nat → List UInt8
  | 0 => []
  | i + 1 => digest s i ++ [UInt8.ofNat ((s.list.getD (i / 4) 0 / 2 ^ (24 - 8 * (i % 4))) % 256).toNat]
theorem digest_len (s : S8) : ∀ i, (digest s i).length = i
  | 0 => rfl
  | i + 1 => by simp [digest, digest_len s i]
def shaB (l : List UInt8) : List UInt8 := digest (shaS l) 32

theorem shaB_size (b : List UInt8) : ((shaB b).map byt).toArray.size = 32 := by rw [List.size_toArray, List.length_map, shaB, digest_len]

/-- a [32]byte's cells, of which the first are laid -/
def D32 (D : List UInt8) : Array Value := (D.map byt ++ List.replicate (32 - D.length) (Value.int IntKind.u8 0)).toArray
theorem D32_next (D : List UInt8) (h : D.length < 32) : (D32 D)[D.length]? = some (Value.int IntKind.u8 0) := by
  simp [D32, List.getElem?_append, List.getElem?_replicate]; omega
theorem D32_set (D : List UInt8) (h : D.length < 32) (x : UInt8) : (D32 D).setIfInBounds D.length (byt x) = D32 (D ++ [x]) := by
  apply Array.ext'
  simp only [D32, List.setIfInBounds_toArray]
  rw [show 32 - D.length = (32 - (D ++ [x]).length) + 1 from by simp; omega, List.replicate_succ, List.set_append_right _ _ (by simp)]
  simp

theorem D32_size (D : List UInt8) (h : D.length ≤ 32) : (D32 D).size = 32 := by simp [D32]; omega
theorem D32_full (D : List UInt8) (h : D.length = 32) : D32 D = (D.map byt).toArray := by simp [D32, h]
theorem D32_one (D : List UInt8) : (D32 D).all (·.oneCell') = true := by
  rw [Array.all_eq_true_iff_forall_mem]
  intro x hx
  simp only [D32, List.mem_toArray, List.mem_append, List.mem_map, List.mem_replicate] at hx
  rcases hx with ⟨b, -, rfl⟩ | ⟨-, rfl⟩ <;> rfl

theorem Ext.setRow {F : Nat → Prop} {a w : World} (h : Ext F a w) (g : Nat) (cs : Array Value) (hp : g < a.heap.size → F g) : Ext F a (w.setRow g cs) :=
  h.trans (G := fun k => k = g) ⟨rfl, rfl, rfl, by simp [World.setRow], fun k _ hf => setRow_other w g k cs hf⟩ (fun i hi g => by subst g; exact hp hi)

theorem dig_at (y : Int) : (Value.int IntKind.u8 (y % 256)) = byt (UInt8.ofNat (y % 256).toNat) := by
  have h1 := Int.emod_nonneg y (show (256 : Int) ≠ 0 by decide)
  have h2 := Int.emod_lt_of_pos y (show (0 : Int) < 256 by decide)
  simp only [byt, UInt8.toNat_ofNat']
  congr 1; omega
theorem blk_other {w : World} {k : Nat} {o : Option Obj} (h : w.heap[k]? = o) (a : Addr) (v : Value) (hk : k ≠ a.block) : (w.setCell a v).heap[k]? = o := (Below.heap_setCell w a v k hk).trans h

theorem lenB_at (n i : Nat) (hn : n * 8 < 9223372036854775808) : wrap64 ((n : Int) * 8) / 2 ^ (56 - 8 * i) % 256 = ((UInt8.ofNat (n * 8 / 2 ^ (56 - 8 * i))).toNat : Int) := by
  have h : wrap64 ((n : Int) * 8) = ((n * 8 : Nat) : Int) := by
    rw [IntWalk.wrap64_in _ (by omega)]; omega
  rw [h]
  have h2 : ((n * 8 : Nat) : Int) / 2 ^ (56 - 8 * i) = ((n * 8 / 2 ^ (56 - 8 * i) : Nat) : Int) := by push_cast; rfl
  rw [h2]
  simp

theorem Laid.set {w : World} (h : Laid w) {p : Nat} (hp : 2 ≤ p) {w' : World} (e : Ext (fun k => k = p) w w') : Laid w' := h.ext e (fun h => by omega) (fun h => by omega)
theorem Laid.size {w : World} (h : Laid w) : 2 ≤ w.heap.size := by
  obtain ⟨⟨t, fr, a⟩, -⟩ := h
  have := blk_lt a; omega

set_option maxRecDepth 20000 in
set_option maxHeartbeats 4000000 in
theorem hsum_ok (p : Nat) (L : List UInt8) (F : Nat → Prop) (w : World) (hh : HashAt w p L F) (hG : Laid w) (hL : L.length + 80 ≤ big) :
    Calls Tryd.prog 85 #[.pointer (some ⟨p, 0, none⟩)] w fun e w' => e = .returned (.agg ((shaB L).map byt).toArray) ∧ Ext nob w w' := by
  have HB := Lib.hid hL
  have HH := Lib.hid hh
  have HG := Lib.hid hG
  have hlt : p < w.heap.size := by obtain ⟨s, ao, n, c, h1, -⟩ := hh; exact blk_lt h1
  have h2 := hG.size
  clear hL hh hG
  go_enter Tryd.func85, Tryd.ntmps85
  go_wp2_with fail
  refine (hcopy_ok p L F _ (HH.out.ext ((Ext.refl nob w).alloc _) (fun _ _ h => h)) (by have := HB.out; omega)).mono ?_
  rintro e w1 ⟨q, F1, rfl, hq, e1, hF1⟩
  have hq' : 1 + w.heap.size ≤ q := by obtain ⟨s, ao, n, c, -, -, -, -, h5, -⟩ := hq; have := hF1 q h5; simp at this; omega
  have hout := e1.blk (blk_new w _) (fun h => h)
  have HO := Lib.hid hout
  have HQ := Lib.hid hq
  have HE1 : Hid (Ext nob w w1) := ((Ext.refl nob w).alloc _).trans' e1
  have HF1 := Lib.hid hF1
  obtain ⟨s, ao, n, c, hq1, -⟩ := id hq
  obtain ⟨c0, c1, c2, c3, c4, c5, c6, c7, c8, c9, -, hlt1⟩ := cells10 hq1
  clear hq e1 hF1 hout hq1 c0 c1 c2 c3 c4 c5 c6 c7 c8
  go_wp2_with fail
  go_loopw [4] (fun v wr => ∃ (k : Nat), k ≤ padK L.length ∧ Own wr 5 1 v (k + 1) ((128 :: List.replicate k 0).map byt) ∧ Ext nob w1 wr ∧ (∀ i, v.ownBlock = some i → w1.heap.size ≤ i)) (fun a _ => match a with | .slice _ n _ => 100 - n | _ => 0)
  case atStart => exact ⟨0, Nat.zero_le _, own_new w1 5 _, (Ext.refl _ w1).alloc _, by simp [Value.ownBlock]⟩
  case round =>
    obtain ⟨k, hk, hown, he, hv⟩ := hrel
    obtain ⟨av, cv, rfl, -⟩ := Own.shape hown
    have k9 := he.cell c9 (fun h => h)
    have hql := Nat.lt_of_lt_of_le hlt1 he.size
    have HO' := Lib.hid hown
    have HE := Lib.hid he
    have HV := Lib.hid hv
    have hkk : k < 64 := by unfold padK at hk; omega
    have hN : (((L.length + (k + 1) : Nat) : Int)) = (L.length : Int) + ((k + 1 : Nat) : Int) := by omega
    have hb1 : L.length < 4611686018427387904 := by have := HB.out; unfold big at this; omega
    have HK := Lib.hid hk
    clear hown he hv hk
    by_cases hkp : k < padK L.length
    · have hc : (((L.length : Int) + ((k : Int) + 1)) % 64 != 56) = true := by
        simp only [padK] at hkp
        simp only [bne_iff_ne, ne_eq]; omega
      go_wp2_with (at_builtin; refine app_bytes rfl (.tmp 22) (.tmp 23) rfl _ (k + 1) ((128 :: List.replicate k 0).map byt) rfl ?c1 _ 1 1 [0] rfl ?c2 ?c3 ?c4)
      case c1 => exact HO'.out.alloc _
      case c2 => exact bytes_new wr 5 0 0 rfl
      case c3 => omega
      case c4 =>
        intro v' w3 h1 h2 h3
        obtain ⟨av', cv', rfl, -⟩ := Own.shape h1
        have HX : Hid (Ext nob w1 w3) := (HE.out.alloc _).trans h2 (fun i hi h => by have := HV.out i h; omega)
        have H1 := Lib.hid h1
        have H3 : Hid (∀ i, (Value.slice av' (k + 1 + 1) cv').ownBlock = some i → w1.heap.size ≤ i) := fun i h => by
          rcases h3 i h with h | h
          · exact HV.out i h
          · have := HE.out.size; omega
        clear h1 h2 h3
        go_wp2_with fail
        go_roundw
        case rel => 
          refine ⟨k + 1, hkp, ?_, HX.out, H3.out⟩
          have := H1.out
          rw [List.replicate_succ']
          simpa using this
        case measure => simp; omega
    · have hke : k = padK L.length := by have := HK.out; omega
      have hc : (((L.length : Int) + ((k : Int) + 1)) % 64 != 56) = false := by
        simp only [padK] at hke
        simp only [bne_eq_false_iff_eq]; omega
      have HKE := Lib.hid hke
      clear hke hkp
      go_wp2_with fail
      go_loopw [4, 25] (fun v a wq => ∃ (i : Nat), i ≤ 8 ∧ a = .int .i64 (i : Int) ∧ Own wq 5 1 v (k + 1 + i) ((128 :: List.replicate k 0 ++ lenB L.length i).map byt) ∧ Ext nob w1 wq ∧ (∀ i, v.ownBlock = some i → w1.heap.size ≤ i)) (fun _ a _ => 8 - (intOf a).toNat)
      case atStart => exact ⟨0, by omega, rfl, by simpa [lenB] using HO'.out, HE.out, HV.out⟩
      case round =>
        obtain ⟨i, hi, rfl, hown, he, hv⟩ := hrel
        obtain ⟨av, cv, rfl, -⟩ := Own.shape hown
        have k9 := he.cell c9 (fun h => h)
        have hql := Nat.lt_of_lt_of_le hlt1 he.size
        have HO' := Lib.hid hown
        have HE := Lib.hid he
        have HV := Lib.hid hv
        have hi' : (i : Int) ≤ 8 := by omega
        clear hown he hv
        by_cases h8 : i < 8
        · have h8' : (i : Int) < 8 := by omega
          have hs0 : (0 : Int) ≤ 56 - 8 * (i : Int) := by omega
          have hst : (56 - 8 * (i : Int)).toNat = 56 - 8 * i := by omega
          go_wp2_with (at_builtin; refine app_bytes rfl (.tmp 28) (.tmp 39) rfl _ (k + 1 + i) ((128 :: List.replicate k 0 ++ lenB L.length i).map byt) rfl ?c1 _ 1 1 [UInt8.ofNat (L.length * 8 / 2 ^ (56 - 8 * i))] rfl ?c2 ?c3 ?c4)
          case c1 => exact HO'.out.alloc _
          case c2 => exact bytes_new _ _ _ _ (lenB_at L.length i (by have := HB.out; unfold big at this; omega))
          case c3 => omega
          case c4 =>
            intro v' w3 h1 h2 h3
            obtain ⟨av', cv', rfl, -⟩ := Own.shape h1
            have HX : Hid (Ext nob w1 w3) := (HE.out.alloc _).trans h2 (fun i hi h => by have := HV.out i h; omega)
            have H1 := Lib.hid h1
            have H3 : Hid (∀ j, (Value.slice av' (k + 1 + i + 1) cv').ownBlock = some j → w1.heap.size ≤ j) := fun j h => by
              rcases h3 j h with h | h
              · exact HV.out j h
              · have := HE.out.size; omega
            clear h1 h2 h3
            go_wp2_with fail
            go_roundw
            case rel =>
              refine ⟨i + 1, by omega, by go_num, ?_, HX.out, H3.out⟩
              refine (show Own _ _ _ _ (k + 1 + i + 1) _ from ?_)
              have := H1.out
              simpa [lenB, List.map_append] using this
            case measure => simp [intOf]; omega
        · have hi8 : i = 8 := by omega
          subst hi8
          have hwr : Hid (∀ w', Ext nob wr w' → Calls Tryd.prog 84 #[.pointer (some ⟨q, 0, none⟩), .slice av (k + 1 + 8) cv] w' fun e w4 => e = .returned (.pointer (some ⟨q, 0, none⟩)) ∧ (∃ s' lo m lc, s' = shaS L ∧ w4.heap[q]? = some (.cells #[.int .u32 s'.a, .int .u32 s'.b, .int .u32 s'.c, .int .u32 s'.d, .int .u32 s'.e, .int .u32 s'.f, .int .u32 s'.g, .int .u32 s'.h, .slice lo m lc, .int .i64 ((L ++ padB L.length).length : Int)] 158 (0, 0))) ∧ Ext (fun k => k = q) wr w4) := fun w' ew => by
            have hk' := HKE.out
            subst hk'
            obtain ⟨-, q1, -⟩ := Own.shape HO'.out |>.choose_spec.choose_spec
            have hbb : Bytes w' av (padK L.length + 1 + 8) (padB L.length) := by
              have hr := (Own.rd HO'.out rfl).2
              exact ⟨by rw [padB_len], hr.ext ew (fun _ _ h => h)⟩
            refine (hwrite_ok q L F1 av (padK L.length + 1 + 8) cv (padB L.length) w' (HQ.out.ext (HE.out.trans' ew) (fun _ _ h => h)) hbb (HG.out.ext (HE1.out.trans' (HE.out.trans' ew)) (fun h => h) (fun h => h)) ?_).mono ?_
            · have := HB.out; simp only [padK]; omega
            · rintro e w4 ⟨rfl, ⟨F', ⟨s', lo, m, lc, g1, -, g2, -⟩, -⟩, g3⟩
              refine ⟨rfl, ⟨s', lo, m, lc, g2 ?_, g1⟩, ew.nob.trans' g3⟩
              simp [padB_len]; simp only [padK]; omega
          go_wp2_with fail
          refine (hwr.out _ (Ext.refl _ _)).mono ?_
          rintro e w4 ⟨rfl, ⟨s', lo, m, lc, g1, g2⟩, g3⟩
          have hne : w.heap.size ≠ q := by omega
          have g4 := g3.blk (HE.out.blk HO.out (fun h => h)) hne
          have HS := Lib.hid g1
          have H2 := Lib.hid g2
          have H4 := Lib.hid g4
          have HE4 : Hid (Ext nob w w4) := (HE1.out.trans' HE.out).trans g3 (fun j hj e => by omega)
          clear g1 g2 g3 g4 k9 c9
          go_wp2_with fail
          go_loopw [45] (fun a wq => ∃ (i : Nat), i ≤ 32 ∧ a = .int .i64 (i : Int) ∧ wq.heap[w.heap.size]? = some (.cells (D32 (digest s' i)) 38 (0, 0)) ∧ wq.heap[q]? = w4.heap[q]? ∧ Ext nob w wq) (fun a _ => 32 - (intOf a).toNat)
          case atStart => exact ⟨0, by omega, rfl, H4.out, rfl, HE4.out⟩
          case round =>
            obtain ⟨i, hi, rfl, hD, hq', he⟩ := hrel
            by_cases h32 : i < 32
            · have h32' : (i : Int) < 32 := by omega
              obtain ⟨j, hj⟩ : ∃ j, j = i / 4 := ⟨_, rfl⟩
              have hj' : (i : Int) / 4 = (j : Int) := by omega
              have hj8 : j < 8 := by omega
              have hj8' : (j : Int) < 8 := by omega
              obtain ⟨r, hr⟩ : ∃ r, r = i % 4 := ⟨_, rfl⟩
              have hr' : (i : Int) % 4 = (r : Int) := by omega
              have hr4 : r < 4 := by omega
              have hr0 : (0 : Int) ≤ 24 - 8 * (r : Int) := by omega
              have hrt : (24 - 8 * (r : Int)).toNat = 24 - 8 * r := by omega
              have hqc := hq'.trans H2.out
              have cj : wr.cell? ⟨q, j, none⟩ = some (.int .u32 (s'.list.getD j 0)) := by
                have : j = 0 ∨ j = 1 ∨ j = 2 ∨ j = 3 ∨ j = 4 ∨ j = 5 ∨ j = 6 ∨ j = 7 := by omega
                rcases this with h | h | h | h | h | h | h | h <;> subst h <;> simp [World.cell?, hqc, S8.list]
              have co : wr.cell? ⟨w.heap.size, i, none⟩ = some (.int .u8 0) := by
                have := D32_next (digest s' i) (by rw [digest_len]; omega)
                rw [digest_len] at this
                simp [World.cell?, hD, this]
              have fo : wr.frozen? ⟨w.heap.size, i, none⟩ = false := by simp [World.frozen?, hD]
              have fq : q < wr.heap.size := blk_lt hqc
              have HD := Lib.hid hD
              have HQ' := Lib.hid hq'
              have HE' := Lib.hid he
              have HJ := Lib.hid hj
              have HR := Lib.hid hr
              obtain ⟨x, hx⟩ : ∃ x, x = s'.list.getD j 0 := ⟨_, rfl⟩
              rw [← hx] at cj
              have HXX := Lib.hid hx
              clear hD hq' he hj hr hqc hx
              go_wp2_with fail
              go_roundw
              case rel =>
                refine ⟨i + 1, by omega, by go_num, ?_, blk_other HQ'.out _ _ hne.symm, HE'.out.setCell _ _ (fun h => absurd h (by simp))⟩
                refine (blk_set HD.out i _).trans ?_
                have := D32_set (digest s' i) (by rw [digest_len]; omega) (UInt8.ofNat ((s'.list.getD (i / 4) 0 / 2 ^ (24 - 8 * (i % 4))) % 256).toNat)
                rw [digest_len] at this
                rw [digest, ← this, HXX.out, HJ.out, HR.out, dig_at]
              case measure => simp [intOf]; omega
            · have hi32 : i = 32 := by omega
              subst hi32
              have hsz : (Tryd.prog.info? 38).map (·.size) = some (D32 (digest s' 32)).size := by rw [D32_size _ (by rw [digest_len]; omega)]; kernel_rfl
              have h1c := D32_one (digest s' 32)
              have HSZ := Lib.hid hsz
              have HD := Lib.hid hD
              have HE' := Lib.hid he
              have H1C := Lib.hid h1c
              clear hsz hD he hq' h1c
              go_wp2_with (first | (refine wpList_load_row rfl 38 _ rfl w.heap.size rfl _ (D32 (digest s' 32)) (0, 0) _ HD.out Tryd.underlying38 rfl HSZ.out ?_) | (refine wpList_store_row rfl 38 (.tmp 2) (.tmp 64) rfl w.heap.size (D32 (digest s' 32)) rfl rfl _ _ HD.out HSZ.out rfl H1C.out ?_; rw [setRow_self _ _ _ _ _ HD.out]))
              refine ret_row 2 38 rfl w.heap.size rfl 38 (D32 (digest s' 32)) (0, 0) HD.out _ Tryd.underlying38 rfl HSZ.out rfl ⟨?_, HE'.out⟩
              rw [D32_full _ (digest_len _ _), HS.out]; rfl

set_option maxRecDepth 20000 in
theorem sha_ok (ao : Option Addr) (n c : Nat) (b : List UInt8) (w : World) (hb : Bytes w ao n b) (hG : Laid w) (hn : n + 80 ≤ big) :
    Calls Tryd.prog 28 #[.slice ao n c] w fun e w' => e = .returned (.agg ((shaB b).map byt).toArray) ∧ Ext nob w w' := by
  have HN := Lib.hid hn
  have HB := Lib.hid hb
  have HG := Lib.hid hG
  have h2 := hG.size
  have hl := hb.1
  have hone : ((shaB b).map byt).toArray.all (·.oneCell') = true := by
    have := D32_one (shaB b)
    rwa [D32_full (shaB b) (digest_len _ 32)] at this
  have hs := shaB_size b
  obtain ⟨D, hD⟩ : ∃ D, ((shaB b).map byt).toArray = D := ⟨_, rfl⟩
  rw [hD] at hone hs ⊢
  have hsz : (Tryd.prog.info? 38).map (·.size) = some D.size := by rw [hs]; kernel_rfl
  have HSZ := Lib.hid hsz
  have HONE := Lib.hid hone
  have HS := Lib.hid hs
  have HDD := Lib.hid hD
  clear hn hb hG hsz hone hs hD
  go_enter Tryd.func28, Tryd.ntmps28
  go_wp2_with fail
  refine (hnew_ok _).mono ?_
  rintro e w1 ⟨rfl, g1, g2⟩
  have hout := g2.blk (blk_new w _) (fun h => h)
  simp only [World.size_alloc] at g1
  have HO := Lib.hid hout
  have HE1 : Hid (Ext nob w w1) := ((Ext.refl nob w).alloc _).trans' g2
  have H1 := Lib.hid g1
  clear g1 g2 hout
  go_wp2_with fail
  refine (hwrite_ok _ [] _ ao n c b w1 H1.out (HB.out.ext HE1.out (fun _ _ h => h)) (HG.out.ext HE1.out (fun h => h) (fun h => h)) (by have := HN.out; simp; omega)).mono ?_
  rintro e w2 ⟨rfl, ⟨F', g1, g2⟩, g3⟩
  have hout2 := g3.blk HO.out (by omega)
  have HO2 := Lib.hid hout2
  have HE2 : Hid (Ext nob w w2) := HE1.out.trans g3 (fun i hi e => by omega)
  have H2 := Lib.hid g1
  clear g1 g2 hout2 g3
  go_wp2_with fail
  refine (hsum_ok _ _ _ w2 H2.out (HG.out.ext HE2.out (fun h => h) (fun h => h)) (by have := HN.out; simp [hl]; omega)).mono ?_
  rintro e w3 ⟨rfl, g3⟩
  have hout3 := g3.blk HO2.out (fun h => h)
  have HO3 := Lib.hid hout3
  have HE3 : Hid (Ext nob w w3) := HE2.out.trans' g3
  simp only [List.nil_append, HDD.out]
  clear hout3 g3
  go_wp2_with (refine wpList_store_row rfl 38 (.tmp 2) (.tmp 6) rfl w.heap.size D rfl rfl _ _ HO3.out HSZ.out HS.out.symm HONE.out ?_)
  refine ret_row 2 38 rfl w.heap.size rfl 38 D (0, 0) (setRow_heap _ _ _ _ _ _ HO3.out) _ Tryd.underlying38 rfl HSZ.out rfl ⟨rfl, HE3.out.setRow _ _ (fun h => absurd h (by omega))⟩
end Go.Proofs.YtfgfhfmhadondaaDoor
