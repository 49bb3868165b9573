/- keep.Get: a key's pair. -/
import Derived.Test.YteadkghffdiaoabKeepN
set_option linter.unusedVariables false
set_option linter.unusedSimpArgs false
set_option maxRecDepth 100000
namespace Go.Proofs.Yteadkghffdiaoab
open Go.RowKit Go.Proofs.YteadkghffdiaoabW.PrintWords

theorem rightK_iff (l : List Item) : rightK l = true ↔ (∀ k, (hk : k < l.length) → pairS l[k] = true) ∧ (∀ k, (hk : k + 1 < l.length) → ltS l[k].key l[k + 1].key = true) ∧ l.length ≤ 24 := by
  unfold rightK
  rw [Bool.and_eq_true, List.all_eq_true, decide_eq_true_eq]
  constructor
  · rintro ⟨h, h2⟩
    have key : ∀ k, (hk : k < l.length) → (pairAt l k).2 = true := fun k hk => h _ (List.mem_map.2 ⟨k, List.mem_range.2 hk, rfl⟩)
    refine ⟨fun k hk => ?_, fun k hk => ?_, by omega⟩
    · have := key k hk
      unfold pairAt at this
      rw [pairAt_get hk] at this
      simp only [Bool.and_eq_true] at this
      exact this.1
    · have := key (k + 1) hk
      unfold pairAt at this
      rw [pairAt_get hk] at this
      simp only [Bool.and_eq_true, Bool.or_eq_true, decide_eq_true_eq] at this
      rcases this.2 with h3 | h3
      · omega
      · rw [Nat.add_sub_cancel, pairAt_get (by omega)] at h3; exact h3
  · rintro ⟨h1, h2, h3⟩
    refine ⟨fun x hx => ?_, by omega⟩
    obtain ⟨k, hk, rfl⟩ := List.mem_map.1 hx
    have hk' : k < l.length := List.mem_range.1 hk
    unfold pairAt
    rw [pairAt_get hk', h1 k hk']
    cases k with
    | zero => rfl
    | succ k =>
      rw [Nat.add_sub_cancel, pairAt_get (by omega), h2 k hk']; simp
theorem rightK_sorted {l : List Item} (h : rightK l = true) : sortedI l := by
  obtain ⟨_, h2, _⟩ := (rightK_iff l).1 h
  intro p q hp hq
  induction q with
  | zero => omega
  | succ q ih =>
    rcases Nat.lt_or_ge p q with h3 | h3
    · exact ltS_trans (ih h3 (by omega)) (h2 q hq)
    · obtain rfl : p = q := by omega
      exact h2 p hq
theorem rightK_len {l : List Item} (h : rightK l = true) : l.length ≤ 24 := ((rightK_iff l).1 h).2.2

def getS (l : List Item) (key : ByteArray) : Item × Int := if rightK l = true ∧ foundS l key = true then (l.getD (posS l key) Item.zero, 0) else (Item.zero, 201)
section
variable {P : Program} {tmps : Array Value} {w : World}
theorem results_ct {fn : Func} {p1 p2 : Tmp} {ty1 : TypeId} {g1 : Nat} {t : TypeId} {cs : Array Value} {fr : Nat × Nat} {d : TypeDesc} {v2 : Value} (h : fn.results = #[.cell p1 ty1, .tmp p2]) (hp1 : tmps.getD p1 undef = .pointer (some ⟨g1, 0, none⟩)) (hg1 : w.heap[g1]? = some (.cells cs t fr))
    (hu : P.underlying ty1 = some d) (hd : (match d with | .struct _ | .array _ _ => true | _ => false) = true) (hi : (P.info? ty1).map (·.size) = some cs.size) (hp2 : tmps.getD p2 undef = v2) : (results fn tmps).run P w = .ok (.tuple #[.agg cs, v2]) w := by
  have := results_list (fn := fn) (tmps := tmps) (w := w) (P := P) (rs := [.cell p1 ty1, .tmp p2]) (vs := [.agg cs, tmps.getD p2 undef]) h (by simp) (.cell g1 t cs fr d hp1 hg1 hu hd hi (.tmp .nil))
  rw [hp2] at this
  exact this
end

theorem place_kw (l : List Item) (key : ByteArray) (A : Option Addr) (c : Nat) (w : World) (hr : RI w A c l) (hl : l.length ≤ 1000000) (hs : sortedI l) {b : Bool} (hf : foundS l key = b) :
    Calls Try.prog 56 #[.slice A l.length c, .string key] w fun e w' => e = .returned (.tuple #[.int .i64 (posS l key), .bool b]) ∧ Below w.heap.size w w' := by subst hf; exact place_kc l key A c w hr hl hs

set_option maxHeartbeats 1000000 in
theorem keepGet_c (w : World) (A : Option Addr) (c : Nat) (l : List Item) (key : ByteArray) (hr : RI w A c l) :
    Calls Try.prog 28 #[.slice A l.length c, .string key] w fun e w' => e = .returned (.tuple #[.agg (ic (getS l key).1), .int .i64 (getS l key).2]) ∧ Below w.heap.size w w' := by
  have hu := Try.underlying25
  have HR := Lib.hid hr; clear hr
  cases hrk : rightK l with
  | false =>
    have HN := Lib.hid (show getS l key = (Item.zero, 201) by unfold getS; rw [hrk]; rfl)
    go_enter Try.func28, Try.ntmps28
    go_upto_region 1 with fail
    have k4 := blk_new w (.cells (ic Item.zero) 25)
    have hb := alloc_belowK w (.cells (ic Item.zero) 25)
    have HRb := Lib.hid (HR.out.below hb)
    simp only [ic, Item.zero] at hb k4 HRb
    generalize World.alloc _ _ = W at hb k4 HRb ⊢
    have HB := Lib.hid hb; clear hb
    go_wp2_with (first
      | (go_at_call 27; refine (keepRight_w _ A c l HRb.out hrk).mono ?_; rintro e W2 ⟨rfl, hb2⟩; have k4b := blk_below k4 hb2; have HB := Lib.hid (below_step HB.out hb2); clear hb2 k4)
      | (refine gate_ (.load 25 (.tmp 4)) rfl ?_; refine wpList_load_blk 25 (.tmp 4) rfl rfl w.heap.size rfl k4b hu rfl itemSize ?_)
      | (refine gate_ (.store 25 (.tmp 4) (.tmp 11)) rfl ?_; refine wpList_store_blk 25 (.tmp 4) (.tmp 11) rfl rfl rfl w.heap.size rfl k4b (cs := ic Item.zero) rfl itemSize rfl (by simp [Value.oneCell']) ?_; intro W3 k4c hg; have HB := Lib.hid (HB.out.grown hg HB.out.size (fun k e => by have := Option.some.inj e; omega)); clear hg k4b))
    exact bodyPost_ret (results_ct (g1 := w.heap.size) (v2 := .int .i64 201) rfl rfl k4c hu rfl itemSize rfl) rfl ⟨by rw [HN.out], HB.out⟩
  | true =>
    have HS := Lib.hid (rightK_sorted hrk)
    have hlen := rightK_len hrk
    cases hf : foundS l key with
    | false =>
      have HN := Lib.hid (show getS l key = (Item.zero, 201) by unfold getS; rw [hf, if_neg (by simp)])
      go_enter Try.func28, Try.ntmps28
      go_upto_region 1 with fail
      have k4 := blk_new w (.cells (ic Item.zero) 25)
      have hb := alloc_belowK w (.cells (ic Item.zero) 25)
      have HRb := Lib.hid (HR.out.below hb)
      simp only [ic, Item.zero] at hb k4 HRb
      generalize World.alloc _ _ = W at hb k4 HRb ⊢
      have HB := Lib.hid hb; clear hb
      go_wp2_with (first
      | (go_at_call 27; refine (keepRight_w _ A c l HRb.out hrk).mono ?_; rintro e W2 ⟨rfl, hb2⟩; have k4b := blk_below k4 hb2; have HRb := Lib.hid (HRb.out.below hb2); have HB := Lib.hid (below_step HB.out hb2); clear hb2 k4)
      | (go_at_call 56; refine (place_kw l key A c _ HRb.out (by omega) HS.out hf).mono ?_; rintro e W4 ⟨rfl, hb2⟩; have k4d := blk_below k4b hb2; have HRc := Lib.hid (HRb.out.below hb2); have HB := Lib.hid (below_step HB.out hb2); clear hb2 k4b)
        | (refine gate_ (.load 25 (.tmp 4)) rfl ?_; refine wpList_load_blk 25 (.tmp 4) rfl rfl w.heap.size rfl k4d hu rfl itemSize ?_)
        | (refine gate_ (.store 25 (.tmp 4) (.tmp 20)) rfl ?_; refine wpList_store_blk 25 (.tmp 4) (.tmp 20) rfl rfl rfl w.heap.size rfl k4d (cs := ic Item.zero) rfl itemSize rfl (by simp [Value.oneCell']) ?_; intro W3 k4c hg; have HB := Lib.hid (HB.out.grown hg HB.out.size (fun k e => by have := Option.some.inj e; omega)); clear hg k4d))
      exact bodyPost_ret (results_ct (g1 := w.heap.size) (v2 := .int .i64 201) rfl rfl k4c hu rfl itemSize rfl) rfl ⟨by rw [HN.out], HB.out⟩
    | true =>
      have hpl : posS l key < l.length := by
        unfold foundS at hf
        rw [decide_eq_true_eq] at hf
        rcases Nat.lt_or_ge (posS l key) l.length with h | h
        · exact h
        · rw [List.getElem?_eq_none h] at hf; cases hf
      have HN := Lib.hid (show getS l key = (l[posS l key], 0) by unfold getS; rw [hf, hrk, if_pos (by simp), pairAt_get hpl])
      obtain ⟨p, hp⟩ : ∃ p, p = posS l key := ⟨_, rfl⟩
      have hpl2 : p < l.length := by omega
      have hpe : l[posS l key] = l[p] := by simp [hp]
      rw [hpe] at HN
      have HP := Lib.hid hp; clear hpe hp hpl
      obtain ⟨ad, rfl⟩ := HR.out.some hpl2
      have i0 : (0 : Int) ≤ (p : Int) := by omega
      have i1 : (p : Int) < (l.length : Int) := by omega
      go_enter Try.func28, Try.ntmps28
      go_upto_region 1 with fail
      have k4 := blk_new w (.cells (ic Item.zero) 25)
      have hb := alloc_belowK w (.cells (ic Item.zero) 25)
      have HRb := Lib.hid (HR.out.below hb)
      simp only [ic, Item.zero] at hb k4 HRb
      generalize World.alloc _ _ = W at hb k4 HRb ⊢
      have HB := Lib.hid hb; clear hb
      go_wp2_with (first
      | (go_at_call 27; refine (keepRight_w _ (some ad) c l HRb.out hrk).mono ?_; rintro e W2 ⟨rfl, hb2⟩; have k4b := blk_below k4 hb2; have HRb := Lib.hid (HRb.out.below hb2); have HB := Lib.hid (below_step HB.out hb2); clear hb2 k4)
      | (go_at_call 56; refine (place_kw l key (some ad) c _ HRb.out (by omega) HS.out hf).mono ?_; rintro e W4 ⟨rfl, hb2⟩; rw [← HP.out]; have k4d := blk_below k4b hb2; have HRc := Lib.hid (HRb.out.below hb2); have HB := Lib.hid (below_step HB.out hb2); clear hb2 k4b)
        | (refine gate_ (.load 25 (.tmp 23)) rfl ?_; refine wpList_load_addr 25 (.tmp 23) rfl rfl (ad.add (p * 4)) rfl (cs := ic l[p]) (HRc.out.at4 hpl2) hu rfl itemSize ?_)
        | (refine gate_ (.store 25 (.tmp 4) (.tmp 24)) rfl ?_; refine wpList_store_blk 25 (.tmp 4) (.tmp 24) rfl rfl rfl w.heap.size rfl k4d (cs := ic l[p]) rfl itemSize rfl (by simp [Value.oneCell']) ?_; intro W3 k4c hg; have HB := Lib.hid (HB.out.grown hg HB.out.size (fun k e => by have := Option.some.inj e; omega)); clear hg k4d))
      exact bodyPost_ret (results_ct (g1 := w.heap.size) (v2 := .int .i64 0) rfl rfl k4c hu rfl itemSize rfl) rfl ⟨by rw [HN.out], HB.out⟩

end Go.Proofs.Yteadkghffdiaoab
