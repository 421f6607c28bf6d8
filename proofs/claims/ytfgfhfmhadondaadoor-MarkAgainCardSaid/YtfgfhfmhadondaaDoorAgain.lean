/- sealchainlaw10.MarkAgain: the walk. -/
import Derived.Test.YtfgfhfmhadondaaDoorMOpen
import Derived.Test.YtfgfhfmhadondaaDoorMarkN
namespace Go.Proofs.YtfgfhfmhadondaaDoor
open Go.RowKit Go.Maps
set_option maxHeartbeats 400000

set_option linter.unusedSimpArgs false in
set_option maxRecDepth 20000 in
set_option maxHeartbeats 4000000 in
theorem markAgain_ok (ao : Option Addr) (n c : Nat) (l : List UInt8) (w : World) (hx : Bytes w ao n l) (hnc : n ≤ c) (hn : n < 4611686018427387904) (hG : Laid w) :
    Calls Tryd.prog 10 #[.slice ao n c] w fun e w' => e = .returned (.bool true) ∧ Ext nob w w' := by
  obtain ⟨k, hk⟩ : ∃ k, k = min n 3000 := ⟨_, rfl⟩
  have hmin : min (n : Int) 3000 = (k : Int) := by omega
  have hkc : k ≤ c := by omega
  have HK : Hid (k ≤ 3000) := by show k ≤ 3000; omega
  have HX : Hid (Bytes w ao k (l.take k)) := hx.take k (by omega)
  obtain ⟨b, hb⟩ : ∃ b, b = l.take k := ⟨_, rfl⟩
  rw [← hb] at HX
  have HG := Lib.hid hG
  clear hx hnc hk hG hb
  go_enter Tryd.func10, Tryd.ntmps10
  go_wp2_with fail
  refine (mopen_ok ao k c b _ HX.out (by have := HK.out; unfold big; omega)).mono ?_
  rintro e w1 ⟨h1, h2, e1⟩
  have E1 := Lib.hid e1
  by_cases h0 : openE b = 0
  · obtain ⟨p, mb, rfl, m1, -, -⟩ := h2 h0
    obtain ⟨E, hE, hl, hbb, -, hlf, hep⟩ := open_ok h0
    have M1 := Lib.hid m1
    have HE := Lib.hid hE
    have HL := Lib.hid hl
    have HB := Lib.hid hbb
    have HLF := Lib.hid hlf
    have HEP := Lib.hid hep
    obtain ⟨lf, hlf2⟩ : ∃ lf, lf = oLife b := ⟨_, rfl⟩
    obtain ⟨ep, hep2⟩ : ∃ ep, ep = oEpoch b := ⟨_, rfl⟩
    obtain ⟨D, hD⟩ : ∃ D, D = oD b := ⟨_, rfl⟩
    rw [← hlf2, ← hep2, ← hD] at M1
    rw [← hlf2, ← hep2] at HB
    rw [← hlf2] at HLF
    rw [← hep2] at HEP
    rw [← hD] at HE
    clear h1 h2 h0 m1 hE hl hbb hlf hep e1 hlf2 hep2 hD
    go_wp2_with fail
    refine (mbytesD_ok p mb lf ep D _ M1.out (by rw [HE.out.size]; exact HL.out) HLF.out HEP.out HE.out.ver).mono ?_
    rintro e w2 ⟨bo, bn, bc, rfl, b2, e2, -⟩
    rw [HE.out.bytes, ← HB.out] at b2
    have B2 := Lib.hid b2
    have BX : Hid (Bytes w2 ao k b) := HX.out.ext (E1.out.trans' e2) (fun _ _ h => h)
    have E2 : Hid (Ext nob w w2) := E1.out.trans' e2
    obtain rfl : bn = k := by rw [← B2.out.1, ← BX.out.1]
    clear b2 e2
    go_wp2_with fail
    refine (eqb_same10 bo ao bn _ _ _ _ B2.out BX.out).mono ?_
    rintro e w3 ⟨rfl, rfl⟩
    go_wp2_with fail
    refine (works10_ok _ (HG.out.ext E2.out (fun h => h) (fun h => h))).mono ?_
    rintro e w4 ⟨rfl, e4⟩
    have E4 : Hid (Ext nob w w4) := E2.out.trans' e4
    clear e4
    go_wp2_with fail
    go_ret
    exact ⟨rfl, E4.out⟩
  · have h3 := h1 h0
    obtain ⟨ev, hev⟩ : ∃ ev, ev = openE b := ⟨_, rfl⟩
    rw [← hev] at h3 h0
    subst h3
    have hne : ((ev : Int) != 0) = true := by simp [h0]
    clear h1 h2 h0 e1 hev
    go_wp2_with fail
    refine (works10_ok _ (HG.out.ext E1.out (fun h => h) (fun h => h))).mono ?_
    rintro e w4 ⟨rfl, e4⟩
    have E4 : Hid (Ext nob w w4) := E1.out.trans' e4
    clear e4
    go_wp2_with fail
    go_ret
    exact ⟨rfl, E4.out⟩
end Go.Proofs.YtfgfhfmhadondaaDoor
