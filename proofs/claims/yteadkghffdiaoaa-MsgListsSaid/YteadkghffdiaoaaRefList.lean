/- garlandref06.list: may a list be told by one? -/
import Derived.Test.YteadkghffdiaoaaMsgList
set_option linter.unusedVariables false
set_option linter.unusedSimpArgs false
namespace Go.Proofs.Yteadkghffdiaoaa
open Go.RowKit Go.Proofs.YteadkghffdiaoaaW.PrintWords

theorem okS_at {l : List Int} {frm : Int} {k : Nat} (hk : k < l.length) : okS (otherAt l frm k) = true ↔ placeS l[k] = true ∧ l[k] ≠ frm ∧ ∀ q, (hq : q < k) → l[q] ≠ l[k] := by
  have e : l[k]?.getD 0 = l[k] := by simp [hk]
  unfold okS otherAt
  rw [e]
  simp only [Bool.and_eq_true, decide_eq_true_eq, Bool.not_eq_true', decide_eq_false_iff_not, List.mem_take_iff_getElem]
  constructor
  · rintro ⟨⟨h1, h2⟩, h3⟩
    exact ⟨h3, h1, fun q hq h => h2 ⟨q, by omega, h⟩⟩
  · rintro ⟨h1, h2, h3⟩
    exact ⟨⟨h2, fun ⟨q, hq, h⟩ => h3 q (by omega) h⟩, h1⟩
theorem listS_bad {l : List Int} {frm : Int} {k : Nat} (hk : k < l.length) (h : ¬ (placeS l[k] = true ∧ l[k] ≠ frm ∧ ∀ q, (hq : q < k) → l[q] ≠ l[k])) : listS l frm = false := by
  refine listS_no (k := k + 1) (by omega) (x := otherAt l frm k) (by rw [othersTo_succ]; simp) ?_
  rw [← okS_at hk] at h
  simpa using h
theorem listS_good {l : List Int} {frm : Int} (h : ∀ k, k < l.length → okS (otherAt l frm k) = true) : listS l frm = decide ((l.length : Int) ≤ 3) := by
  rw [listS_yes (fun x hx => by
    unfold othersTo at hx
    obtain ⟨j, hj, rfl⟩ := List.mem_map.1 hx
    exact h j (by simpa using hj)), decide_eq_decide]
  omega

set_option maxHeartbeats 1600000 in
set_option maxRecDepth 100000 in
theorem rlist_c (w : World) (A : Option Addr) (c : Nat) (l : List Int) (frm : Int) (hr : RL w A c l) :
    Calls Try.prog 36 #[.slice A l.length c, .int .i64 frm] w fun e w' => e = .returned (.bool (listS l frm)) ∧ Below w.heap.size w w' := by
  have hm := hr.max
  have HR := Lib.hid hr; clear hr
  go_enter Try.func36, Try.ntmps36
  go_wp2
  go_loopw [5] (fun i wr => ∃ k n : Nat, k ≤ l.length ∧ i = .int .i64 k ∧ Hid (∀ j, j < k → okS (otherAt l frm j) = true) ∧ wr = w.drewN n) (fun i _ => l.length - (intOf i).toNat)
  case atStart => exact ⟨0, 0, by omega, rfl, Lib.hid (fun j hj => absurd hj (by omega)), rfl⟩
  case round =>
    obtain ⟨k, n, hk, rfl, hn, rfl⟩ := hrel
    by_cases hlt : k < l.length
    · obtain ⟨ad, rfl, hc⟩ := HR.out.get hlt
      have i0 : (0 : Int) ≤ (k : Int) := by omega
      have i1 : (k : Int) < (l.length : Int) := by omega
      rcases hp : placeS l[k] with _ | _
      · have HE := Lib.hid (listS_bad (frm := frm) hlt (by rw [hp]; simp))
        go_wp2_with (go_at_call 26; refine (rplace_c _ _).mono ?_; rintro e w' ⟨rfl, rfl⟩)
        go_ret
        exact ⟨ret_b HE.out.symm, below_drewN (Below.refl _ _) _⟩
      by_cases he : l[k] = frm
      · have b : (l[k] == frm) = true := by simpa using he
        have HE := Lib.hid (listS_bad (frm := frm) hlt (by rw [he]; simp)); clear he
        go_wp2_with (go_at_call 26; refine (rplace_c _ _).mono ?_; rintro e w' ⟨rfl, rfl⟩)
        go_ret
        exact ⟨ret_b HE.out.symm, below_drewN (Below.refl _ _) _⟩
      have b : (l[k] == frm) = false := by simpa using he
      have HE := Lib.hid he; clear he
      have HP := Lib.hid hp
      go_wp2_with (go_at_call 26; refine (rplace_c _ _).mono ?_; rintro e w' ⟨rfl, rfl⟩)
      go_loopw [6] (fun j wr => ∃ q n : Nat, q ≤ k ∧ j = .int .i64 q ∧ Hid (∀ p, (hp : p < q) → (hq : q ≤ k) → l[p]'(by omega) ≠ l[k]) ∧ wr = w.drewN n) (fun j _ => k - (intOf j).toNat)
      case atStart => exact ⟨0, _, by omega, rfl, Lib.hid (fun p hp => absurd hp (by omega)), rfl⟩
      case round =>
        obtain ⟨q, m, hq, rfl, hm2, rfl⟩ := hrel
        by_cases hql : q < k
        · have hql2 : q < l.length := by omega
          have hcq : w.cell? (ad.add q) = some (.int .i64 l[q]) := by
            obtain ⟨ad', e, h⟩ := HR.out.get hql2
            cases e; exact h
          have j0 : (0 : Int) ≤ (q : Int) := by omega
          have j1 : (q : Int) < (l.length : Int) := by omega
          by_cases he : l[q] = l[k]
          · have b2 : (l[q] == l[k]) = true := by simpa using he
            have HE := Lib.hid (listS_bad (frm := frm) hlt (fun h => h.2.2 q hql he)); clear he
            go_wp2
            go_quiet (fail)
            go_wp2
            go_ret
            exact ⟨ret_b HE.out.symm, below_drewN (below_drewN (Below.refl _ _) _) _⟩
          · have b2 : (l[q] == l[k]) = false := by simpa using he
            have HE := Lib.hid he; clear he
            go_wp2
            go_quiet (fail)
            go_wp2
            go_roundw
            case rel => exact ⟨q + 1, _, by omega, by go_num, Lib.hid (fun p hp hq2 => by
              rcases Nat.lt_or_ge p q with h | h
              · exact hm2.out p h (by omega)
              · have : p = q := by omega
                subst this; exact HE.out), rfl⟩
            case measure => simp [intOf]; omega
        · obtain rfl : q = k := by omega
          have hgood := Lib.hid ((okS_at (frm := frm) hlt).2 ⟨HP.out, HE.out, fun p hp => hm2.out p hp (by omega)⟩)
          go_wp2
          go_roundw
          case rel => exact ⟨q + 1, _, by omega, by go_num, Lib.hid (fun j hj => by
              rcases Nat.lt_or_ge j q with h | h
              · exact hn.out j h
              · have : j = q := by omega
                subst this; exact hgood.out), rfl⟩
          case measure => simp [intOf]; omega
    · have HE := Lib.hid (listS_good (frm := frm) (fun j hj => hn.out j (by omega)))
      go_wp2
      go_ret
      exact ⟨ret_b HE.out.symm, below_drewN (Below.refl _ _) _⟩

end Go.Proofs.Yteadkghffdiaoaa
