/- sealchainlaw10.MarkLasts: the plain law. -/
import Derived.Test.YtfgfhfmhadondaaDoorApartP
namespace Go.Proofs.YtfgfhfmhadondaaDoor
open Go.RowKit Go.Maps
set_option maxHeartbeats 400000

theorem enc_same {D D' : DataW Unit} {E : List Ent} (h : Enc D E) (h' : Enc D' E) (n : List UInt8) : verD D n = verD D' n ∧ digD D n = digD D' n := by
  by_cases hh : ∃ e ∈ E, e.n = n
  · obtain ⟨e, he, rfl⟩ := hh
    obtain ⟨h1, h2⟩ := h.at' e he
    obtain ⟨h3, h4⟩ := h'.at' e he
    exact ⟨h1.trans h3.symm, h2.trans h4.symm⟩
  · have h1 : hasD D n = false := by
      cases hq : hasD D n with
      | false => rfl
      | true => exact absurd ((h.has n).1 hq) hh
    have h2 : hasD D' n = false := by
      cases hq : hasD D' n with
      | false => rfl
      | true => exact absurd ((h'.has n).1 hq) hh
    rw [verD_none h1, verD_none h2, digD_none h1, digD_none h2]
    exact ⟨rfl, rfl⟩

/-- D tells of the ten names: the versions ts, the envelopes' numbers ws. -/
structure LP (D : DataW Unit) (E : List Ent) (ts ws : List Nat) : Prop where
  enc : Enc D E
  tl : ts.length = 10
  wl : ws.length = 10
  small : ∀ j (h : j < 10), ws[j]'(by omega) < 3
  ver : ∀ j (h : j < 10), verD D (nmJ j) = (ts[j]'(by omega) : Int)
  nms : ∀ e ∈ E, ∃ j, j < 10 ∧ e.n = nmJ j
  dig : ∀ j (h : j < 10), 0 < ts[j]'(by omega) → digD D (nmJ j) = shaB (envB ((ws[j]'(by omega) : Nat) : Int))

theorem lp0 : LP D0 [] (List.replicate 10 0) (List.replicate 10 0) := ⟨enc0, rfl, rfl, fun j h => (by rw [List.getElem_replicate]; omega), fun j h => (by rw [verD0, List.getElem_replicate]; rfl), fun e h => (by cases h), fun j h hp => (by rw [List.getElem_replicate] at hp; omega)⟩
theorem LP.len {D : DataW Unit} {E : List Ent} {ts ws : List Nat} (h : LP D E ts ws) : E.length ≤ 10 := by
  have hs : ∀ e ∈ E, e.n ∈ (List.range 10).map nmJ := fun e he => by
    obtain ⟨j, hj, hn⟩ := h.nms e he
    exact List.mem_map.2 ⟨j, List.mem_range.2 hj, hn.symm⟩
  have hn : (E.map Ent.n).Nodup := by
    have := h.enc.rise
    rw [List.Nodup, List.pairwise_map]
    exact this.imp nlt
  have := (List.Nodup.length_le_of_subset hn (l₂ := (List.range 10).map nmJ) (fun x hx => by
    obtain ⟨e, he, rfl⟩ := List.mem_map.1 hx
    exact hs e he))
  simpa using this
theorem LP.again {D D' : DataW Unit} {E : List Ent} {ts ws : List Nat} (h : LP D E ts ws) (h' : Enc D' E) : LP D' E ts ws :=
  ⟨h', h.tl, h.wl, h.small, fun j hj => by rw [← (enc_same h.enc h' _).1]; exact h.ver j hj, h.nms, fun j hj hp => by rw [← (enc_same h.enc h' _).2]; exact h.dig j hj hp⟩

def bB (v x : Nat) : List UInt8 := if v = 0 then [] else envB (x : Int)
def wantE (t u v x : Nat) : Nat := if v < t then 100 else if v = t ∧ 0 < v ∧ x ≠ u ∧ shaB (envB (x : Int)) ≠ shaB (envB (u : Int)) then 101 else 0
theorem LP.note {D : DataW Unit} {E : List Ent} {ts ws : List Nat} (h : LP D E ts ws) {k v x t u : Nat} (hk : k < 10) (hv : v < 12) (hx : x < 3) (ht : ts[k]? = some t) (hu : ws[k]? = some u) :
    judgeE D (nmJ k) v (bB v x) = wantE t u v x ∧ noteE D (nmJ k) v (bB v x) = wantE t u v x ∧
      ∃ E', LP (noteD D (nmJ k) v (bB v x)) E' (if wantE t u v x = 0 ∧ t < v then ts.set k v else ts) (if wantE t u v x = 0 ∧ t < v then ws.set k x else ws) := by
  have htl := h.tl
  have hwl := h.wl
  obtain ⟨ht1, ht2⟩ := List.getElem?_eq_some_iff.1 ht
  obtain ⟨hu1, hu2⟩ := List.getElem?_eq_some_iff.1 hu
  have hver : verD D (nmJ k) = (t : Int) := by rw [h.ver k hk, ht2]
  have hs : Maps.size D ≠ 64 := by have := h.len; rw [h.enc.size]; omega
  have hh : hasD D (nmJ k) = true ↔ 0 < t := by
    rw [verD_zero (h.enc.good (by have := h.len; omega)), hver]; omega
  have hd : 0 < t → digD D (nmJ k) = shaB (envB (u : Int)) := fun hp => by
    rw [h.dig k hk (by rw [ht2]; exact hp), hu2]
  have hb : ((v : Int) = 0 ↔ bB v x = []) := by
    unfold bB
    by_cases h0 : v = 0
    · simp [h0]
    · rw [if_neg h0]
      exact ⟨fun e => by omega, fun e => absurd e (envB_ne _)⟩
  have hbs : 0 < v → bB v x = envB (x : Int) := fun h0 => by unfold bB; rw [if_neg (by omega)]
  have hj : judgeE D (nmJ k) v (bB v x) = wantE t u v x := by
    unfold judgeE wantE
    rw [if_neg (by
      rintro (h1 | h1 | h1)
      · omega
      · omega
      · exact h1 hb)]
    by_cases hlt : v < t
    · rw [if_pos (by rw [hver]; omega), if_pos hlt]
    · rw [if_neg (by rw [hver]; omega), if_neg hlt]
      by_cases hc : v = t ∧ 0 < v ∧ x ≠ u ∧ shaB (envB (x : Int)) ≠ shaB (envB (u : Int))
      · rw [if_pos hc]
        obtain ⟨c1, c2, c3, c4⟩ := hc
        rw [if_pos]
        refine ⟨by rw [hver]; omega, hh.2 (by omega), ?_⟩
        rw [hbs c2, hd (by omega)]
        exact c4
      · rw [if_neg hc, if_neg]
        rintro ⟨c1, c2, c3⟩
        have c4 := hh.1 c2
        rw [hver] at c1
        apply hc
        refine ⟨by omega, by omega, fun e => ?_, ?_⟩
        · apply c3
          rw [hbs (by omega), hd c4, e]
        · rw [hbs (by omega), hd c4] at c3
          exact c3
  have hn : noteE D (nmJ k) v (bB v x) = wantE t u v x := by
    unfold noteE
    rw [hj]
    by_cases hw : wantE t u v x = 0
    · rw [if_neg (by rw [hw]; simp), hw]
      split
      · rfl
      · rw [if_neg (fun e => hs e.2)]
    · rw [if_pos hw]
  refine ⟨hj, hn, ?_⟩
  unfold noteD
  by_cases hc : wantE t u v x = 0 ∧ t < v
  · rw [if_pos hc, if_pos hc, if_pos ⟨by rw [hj]; exact hc.1, by rw [hver]; omega, fun e => hs e.2⟩]
    rw [hbs (by omega)]
    have hp := h.enc.put ⟨nmJ k, v, shaB (envB (x : Int))⟩ ⟨rfl, digest_len _ 32, by show 0 < v; omega, by show v ≤ _; omega⟩
    refine ⟨_, ⟨hp, by simp [htl], by simp [hwl], fun j hj => ?_, fun j hj => ?_, fun e he => ?_, fun j hj hpos => ?_⟩⟩
    · rw [List.getElem_set]
      split
      · exact hx
      · exact h.small j hj
    · rw [verD_put h.enc.tidy, List.getElem_set]
      by_cases e : j = k
      · rw [if_pos (by rw [e]), if_pos e.symm]
      · rw [if_neg (fun q => e (nmJ_inj (by omega) (by omega) q)), if_neg (fun q => e q.symm)]
        exact h.ver j hj
    · rcases (mem_insE h.enc.rise).1 he with rfl | ⟨he, -⟩
      · exact ⟨k, hk, rfl⟩
      · exact h.nms e he
    · rw [digD_put h.enc.tidy, List.getElem_set]
      by_cases e : j = k
      · rw [if_pos (by rw [e]), if_pos e.symm]
      · rw [List.getElem_set, if_neg (fun q => e q.symm)] at hpos
        rw [if_neg (fun q => e (nmJ_inj (by omega) (by omega) q)), if_neg (fun q => e q.symm)]
        exact h.dig j hj hpos
  · rw [if_neg hc, if_neg hc]
    have hD : ¬ (judgeE D (nmJ k) v (bB v x) = 0 ∧ verD D (nmJ k) < (v : Int) ∧ ¬ (hasD D (nmJ k) = false ∧ Maps.size D = 64)) := fun e => hc ⟨by rw [← hj]; exact e.1, by have := e.2.1; rw [hver] at this; omega⟩
    rw [if_neg hD]
    exact ⟨E, h⟩
end Go.Proofs.YtfgfhfmhadondaaDoor
