/- ref19: Keys. -/
import Derived.Test.YteadkghffdiaoabKeepV
import Derived.Test.YteadkghffdiaoabAnyOrd
set_option linter.unusedVariables false
set_option linter.unusedSimpArgs false
set_option maxRecDepth 100000
namespace Go.Proofs.Yteadkghffdiaoab
open Go.RowKit Go.Proofs.YteadkghffdiaoabW.PrintWords

/-! ### Rows of strings -/
abbrev OwnS (w : World) (base : Nat) (v : Value) (l : List ByteArray) : Prop := Kd.string.R 9 w base (fun _ => True) v l
structure RS (w : World) (A : Option Addr) (c : Nat) (l : List ByteArray) : Prop where
  r : Kd.string.C w A l.length l
  le : l.length ≤ c
theorem OwnS.reads {w : World} {base : Nat} {v : Value} {l : List ByteArray} (h : OwnS w base v l) : ∃ A c, v = .slice A l.length c ∧ RS w A c l := by
  obtain ⟨A, c, e, hl, hc⟩ := Kd.R_reads h
  exact ⟨A, c, e, hc, hl⟩
theorem OwnS.below {w w1 : World} {base : Nat} {v : Value} {l : List ByteArray} (h : OwnS w base v l) (hb : Below w.heap.size w w1) : OwnS w1 base v l := Kd.R_below h hb
theorem RS.below {w w1 : World} {A : Option Addr} {c : Nat} {l : List ByteArray} (h : RS w A c l) (hb : Below w.heap.size w w1) : RS w1 A c l := ⟨Kd.C_below h.r hb, h.le⟩
theorem RS.get {w : World} {A : Option Addr} {c : Nat} {l : List ByteArray} (h : RS w A c l) {k : Nat} (hk : k < l.length) : ∃ ad, A = some ad ∧ w.cell? (ad.add k) = some (.string l[k]) := by
  obtain ⟨ad, cs, e, hl, hK, hc⟩ := ReadsRow.get_ h.r ByteArray.empty (k : Int) (by omega) (by omega)
  refine ⟨ad, e, ?_⟩
  have e1 : l.getD (k : Int).toNat ByteArray.empty = l[k] := by rw [Int.toNat_natCast, List.getD_eq_getElem?_getD, List.getElem?_eq_getElem hk]; rfl
  rw [e1] at hK
  have hcs : cs = [.string l[k]] := hK
  have := hc 0 (.string l[k]) (by rw [hcs]; rfl)
  rwa [Int.toNat_natCast, show k * Kd.string.sz + 0 = k from Nat.mul_one k] at this
theorem RS.some {w : World} {A : Option Addr} {c : Nat} {l : List ByteArray} (h : RS w A c l) {k : Nat} (hk : k < l.length) : ∃ ad, A = some ad := by
  obtain ⟨ad, e, _⟩ := h.get hk; exact ⟨ad, e⟩
theorem kS_mkM (w : World) (base : Nat) (ok : Nat → Prop) (x : ByteArray) : Kd.string.M w base ok x [.string x] := rfl
theorem strInfo : (Try.prog.info? 9).map (fun i => (i.zero, i.size, i.bytes)) = some (some (.string ⟨#[]⟩), 1, 16) := by kernel_rfl

theorem RS_blk1 {w : World} {b : Nat} {x : ByteArray} (h : w.heap[b]? = some (.cells #[.string x] 9 (0, 0))) : RS w (some ⟨b, 0, none⟩) 1 [x] := by
  refine ⟨⟨rfl, by simp, fun _ => ⟨_, rfl, fun j p hj => ?_⟩⟩, Nat.le_refl _⟩
  have hj0 : j = 0 := by have := (List.getElem?_eq_some_iff.1 hj).1; simp at this; omega
  subst hj0
  obtain rfl : x = p := by simpa using hj
  refine ⟨[.string x], rfl, rfl, fun i u hu => ?_⟩
  have : (⟨b, 0, none⟩ : Addr).add (0 * Kd.string.sz + i) = ⟨b, i, none⟩ := by unfold Addr.add; split <;> simp_all
  rw [this, blk_cell h]
  simpa using hu
theorem str_cut_to (A : Option Addr) (n c k : Nat) (hk : k ≤ n) (hc : n ≤ c) : ∀ W : World, (Instr.slice 60 (.slice A n c) none (some (.int .i64 k)) none).run Try.prog W = .ok (.slice A k c) W := by
  intro W
  obtain ⟨i, hi, _⟩ := Option.map_eq_some_iff.1 strInfo
  have := cut_to 60 9 .i64 Try.underlying60 hi A n c (k : Int) (by omega) (by omega) hc W
  simpa using this
theorem str_cut_from (A : Option Addr) (n c k : Nat) (hk : k ≤ n) : ∀ W : World, (Instr.slice 60 (.slice A n c) (some (.int .i64 k)) none none).run Try.prog W = .ok (.slice (if c = k then A else A.map (·.add (k * 1))) (n - k) (c - k)) W := by
  intro W
  obtain ⟨i, hi, hz⟩ := Option.map_eq_some_iff.1 strInfo
  simp only [Prod.mk.injEq] at hz
  have := cut_from 60 9 .i64 Try.underlying60 hi 1 hz.2.1 A n c (k : Int) (by omega) (by omega) W
  simpa using this
theorem keyAt_eq {l : List ByteArray} {key : ByteArray} {k : Nat} (hk : k ≤ l.length) (h1 : ∀ j, (hj : j < l.length) → j < k → ltS l[j] key = true) (h2 : ∀ h : k < l.length, ltS l[k] key = false) : keyAt l key = k := by
  have hp : (l.takeWhile fun x => ltS x key) <+: l := List.takeWhile_prefix _
  have hle : keyAt l key ≤ l.length := hp.length_le
  rcases Nat.lt_trichotomy (keyAt l key) k with h | h | h
  · have hd := drop_tw (fun x : ByteArray => ltS x key) l
    rw [show (l.takeWhile fun x => ltS x key).length = keyAt l key from rfl, List.drop_eq_getElem_cons (by omega)] at hd
    have := dw_head (fun x : ByteArray => ltS x key) l _ _ hd.symm
    rw [h1 _ (by omega) h] at this; cases this
  · exact h
  · have hkl : k < l.length := by omega
    have e : (l.takeWhile fun x => ltS x key)[k]'h = l[k] := hp.getElem h
    have := tw_all (fun x : ByteArray => ltS x key) l _ (List.getElem_mem (l := l.takeWhile fun x => ltS x key) h)
    rw [e] at this
    rw [h2 hkl] at this; cases this
theorem keys_take {l : List Item} {i : Nat} (hi : i < l.length) : keysS (l.take (i + 1)) = keyIn (keysS (l.take i)) l[i].key := by
  unfold keysS
  rw [List.take_succ_eq_append_getElem hi, List.foldl_append]
  rfl
theorem keyIn_len (o : List ByteArray) (key : ByteArray) : (keyIn o key).length ≤ o.length + 1 := by
  unfold keyIn
  split
  · omega
  · rw [List.length_append, List.length_cons, List.length_take, List.length_drop]; omega
theorem keys_len1 : ∀ (l : List Item) (o : List ByteArray), (l.foldl (fun out x => keyIn out x.key) o).length ≤ o.length + l.length
  | [], o => by simp
  | x :: l, o => by
    rw [List.foldl_cons, List.length_cons]
    have := keys_len1 l (keyIn o x.key)
    have := keyIn_len o x.key
    omega

set_option maxHeartbeats 2000000 in
theorem keys_c (l : List Item) (A : Option Addr) (c : Nat) (w : World) (hr : RI w A c l) (hl : l.length ≤ 1000) :
    Calls Try.prog 32 #[.slice A l.length c] w fun e w' => ∃ v, e = .returned v ∧ OwnS w' w.heap.size v (keysS l) ∧ Below w.heap.size w w' := by
  have hm := hr.max
  have hu := Try.underlying25
  have HR := Lib.hid hr; clear hr
  go_enter Try.func32, Try.ntmps32
  go_wp2
  go_loopw [3, 4] (fun b j wr => ∃ i : Nat, i ≤ l.length ∧ j = .int .i64 i ∧ Hid (OwnS wr w.heap.size b (keysS (l.take i))) ∧ Hid (Below w.heap.size w wr)) (fun _ j _ => l.length - (intOf j).toNat)
  case atStart => exact ⟨0, by omega, rfl, Lib.hid (Kd.R_nil _ _ _ _ _), Lib.hid (Below.refl _ _)⟩
  case round =>
    obtain ⟨i, hi, rfl, HO, HB⟩ := hrel
    by_cases hlt : i < l.length
    · obtain ⟨ad, rfl⟩ := HR.out.some hlt
      have i0 : (0 : Int) ≤ (i : Int) := by omega
      have i1 : (i : Int) < (l.length : Int) := by omega
      have hst := Lib.hid (keys_take hlt)
      have hol : (keysS (l.take i)).length ≤ 1000 := by
        have := keys_len1 (l.take i) []
        rw [List.length_take] at this
        have e : keysS (l.take i) = (l.take i).foldl (fun out x => keyIn out x.key) [] := rfl
        rw [← e] at this; simp at this; omega
      generalize keysS (l.take i) = o at HO hst hol
      obtain ⟨Ao, co, rfl, hro⟩ := HO.out.reads
      have RO := Lib.hid hro; clear hro
      go_wp2
      go_loopw [5] (fun j wx => ∃ k : Nat, k ≤ o.length ∧ j = .int .i64 k ∧ Hid (∀ j, (hj : j < o.length) → j < k → ltS o[j] l[i].key = true) ∧ Hid (Below wr.heap.size wr wx)) (fun j _ => o.length - (intOf j).toNat)
      case atStart => exact ⟨0, by omega, rfl, Lib.hid (fun _ _ h => absurd h (by omega)), Lib.hid (Below.refl _ _)⟩
      case round =>
        obtain ⟨k, hk, rfl, hlow, HX⟩ := hrel
        have HRx := Lib.hid (HR.out.below (below_step HB.out HX.out))
        obtain ⟨f0, f1, f2, f3⟩ := ri_cells4 HRx.out hlt
        have ROx := Lib.hid (RO.out.below HX.out)
        have k0 : (0 : Int) ≤ (k : Int) := by omega
        by_cases hko : k < o.length
        · have k1 : (k : Int) < (o.length : Int) := by omega
          obtain ⟨od, e1, e2⟩ := ROx.out.get hko
          subst e1
          cases hx : ltS o[k] l[i].key with
          | true =>
            have hx2 : Op.bytesLess o[k].toList l[i].key.toList = true := hx
            have HLW := Lib.hid (show ∀ j, (hj : j < o.length) → j < k + 1 → ltS o[j] l[i].key = true from fun j hj hjk => by
              rcases Nat.lt_or_ge j k with h | h
              · exact hlow.out j hj h
              · obtain rfl : j = k := by omega
                exact hx)
            clear hx
            go_upto_region 6 with fail
            go_quiet (fail)
            go_wp2
            go_roundw
            case rel => exact ⟨k + 1, hko, by go_num, HLW, Lib.hid (below_drewN HX.out _)⟩
            case measure => simp [intOf]; omega
          | false =>
            have hx2 : Op.bytesLess o[k].toList l[i].key.toList = false := hx
            have HAT := Lib.hid (keyAt_eq hk hlow.out (fun _ => hx))
            clear hx
            by_cases hke : o[k] = l[i].key
            · have HE := Lib.hid (show keysS (l.take (i + 1)) = o by rw [hst.out]; unfold keyIn; rw [HAT.out, List.getElem?_eq_getElem hko, if_pos (by rw [hke])])
              have he : (o[k].toList == l[i].key.toList) = true := by rw [string_eq, decide_eq_true hke]
              clear hke
              go_upto_region 6 with fail
              go_quiet (fail)
              go_upto_region 8 with fail
              have n1 : ((k : Int) == (o.length : Int)) = false := by rw [beq_eq_false_iff_ne]; omega
              have n2 : decide ((k : Int) = (o.length : Int)) = false := by rw [decide_eq_false_iff_not]; omega
              have n3 : decide (k = o.length) = false := by rw [decide_eq_false_iff_not]; omega
              have n4 : (k == o.length) = false := by rw [beq_eq_false_iff_ne]; omega
              have hbq : Below wr.heap.size wr (wr.drewN nq) := below_drewN (Below.refl _ _) _
              generalize wr.drewN nq = wv at hbq ⊢
              have HX := Lib.hid (below_step HX.out hbq)
              clear hbq
              obtain ⟨g0, g1, g2, g3⟩ := ri_cells4 (HR.out.below (below_step HB.out HX.out)) hlt
              have e3 := (RO.out.below HX.out).get hko
              obtain ⟨od3, e4, e3⟩ := e3
              obtain rfl := Option.some.inj e4
              go_quiet (fail)
              go_wp2
              go_roundw
              case rel => exact ⟨i + 1, hlt, by go_num, by rw [HE.out]; exact Lib.hid (HO.out.below (below_drewN HX.out _)), Lib.hid (below_step HB.out (below_drewN HX.out _))⟩
              case measure => simp [intOf]; omega
            · have HE := Lib.hid (show keysS (l.take (i + 1)) = o.take k ++ l[i].key :: o.drop k by rw [hst.out]; unfold keyIn; rw [HAT.out, List.getElem?_eq_getElem hko, if_neg (fun e => hke (Option.some.inj e))])
              have he : (o[k].toList == l[i].key.toList) = false := by rw [string_eq, decide_eq_false hke]
              clear hke
              go_upto_region 6 with fail
              go_quiet (fail)
              go_upto_region 8 with fail
              have n1 : ((k : Int) == (o.length : Int)) = false := by rw [beq_eq_false_iff_ne]; omega
              have n2 : decide ((k : Int) = (o.length : Int)) = false := by rw [decide_eq_false_iff_not]; omega
              have n3 : decide (k = o.length) = false := by rw [decide_eq_false_iff_not]; omega
              have n4 : (k == o.length) = false := by rw [beq_eq_false_iff_ne]; omega
              have hbq : Below wr.heap.size wr (wr.drewN nq) := below_drewN (Below.refl _ _) _
              generalize wr.drewN nq = wv at hbq ⊢
              have HX := Lib.hid (below_step HX.out hbq)
              clear hbq
              obtain ⟨g0, g1, g2, g3⟩ := ri_cells4 (HR.out.below (below_step HB.out HX.out)) hlt
              have e3 := (RO.out.below HX.out).get hko
              obtain ⟨od3, e4, e3⟩ := e3
              obtain rfl := Option.some.inj e4
              go_quiet (fail)
              go_upto_region 9 with fail
              have hbq : Below wv.heap.size wv (wv.drewN nq) := below_drewN (Below.refl _ _) _
              generalize wv.drewN nq = wy at hbq ⊢
              have HX := Lib.hid (below_step HX.out hbq)
              clear hbq
              have HWY := HX
              have HRy := Lib.hid (HR.out.below (below_step HB.out HWY.out))
              have ROy := Lib.hid (RO.out.below HWY.out)
              obtain ⟨f0, f1, f2, f3⟩ := ri_cells4 HRy.out hlt
              have q0 : ∀ W1, Below wy.heap.size wy W1 → W1.cell? (ad.add (i * 4)) = some (.string l[i].key) := fun W1 h => (ri_cells4 (HRy.out.below h) hlt).1
              have RD := Lib.hid (Kd.C_drop (c := co) ROy.out.r hk ROy.out.le)
              have hct := str_cut_to (some od) o.length co k hk ROy.out.le
              have hcf := str_cut_from (some od) o.length co k hk
              have RD : Hid (Kd.string.C wy (if co = k then (some od) else (some od).map (·.add (k * 1))) (o.drop k).length (o.drop k)) := RD
              generalize (if co = k then (some od) else (some od).map (·.add (k * 1))) = Ad at RD hcf
              clear f0 f1 f2 f3
              try simp only [List.append_eq, List.cons_append, List.nil_append]
              refine region_fst (Below wy.heap.size wy) [1, 2, 3, 5, 6, 7, 8, 9, 12, 13, 14] 6 #[false, true, true, true, false, true, true, true, true, true, false, false, true, true, true, false, false] (by kernel_rfl) (by kernel_rfl) rfl (by kernel_rfl) (by kernel_rfl) (below_drewN (Below.refl _ _) 1) ?_
              iterate 11 ((first | (refine fst_skip rfl rfl ?_; (try simp only [Act.put, List.setIfInBounds_toArray, List.set_cons_zero, List.set_cons_succ])) | ((fail); (try simp only [Act.put, List.setIfInBounds_toArray, List.set_cons_zero, List.set_cons_succ])) | (refine fst_val (v := ?_) rfl rfl (fun W1 hW1 => ?_) ?_; rotate_left; (· (go_simp; try with_reducible rfl)); (try simp only [Act.put, List.setIfInBounds_toArray, List.set_cons_zero, List.set_cons_succ]))))
              refine fst_nil ?_
              have hd : Below wy.heap.size wy wy.drew := below_drewN (Below.refl _ _) 1
              clear q0 hct hcf
              generalize wy.drew = wz at hd ⊢
              refine any_two (i := 0) (j := 10) (by kernel_rfl) ?_ ?_
              · refine wpOp_step rfl (fun K' hK' => ?_)
                refine Kd.R_lit_step Kd.string (w0 := wy) wy.heap.size 9 rfl (N := 46) rfl (xs := ([] : List ByteArray)) (inner := []) (ok := fun _ => True) (okp := fun _ => True) (by go_simp) (Reps.none _ _) (fun _ hk => hk) trivial hd hd.size (by simp) ?_
                intro v46 w46 hv46 hb46 hg46 hat46
                refine hK' _ _ ⟨hb46, ?_⟩
                (try simp only [Act.put, List.setIfInBounds_toArray, List.set_cons_zero, List.set_cons_succ])
                refine any_two (i := 4) (j := 10) (by kernel_rfl) ?_ ?_
                · refine wpOp_step rfl (fun K' hK' => ?_)
                  refine Kd.R_append_rows_step Kd.string (Rr := Kd.string.K w46) (w0 := wy) wy.heap.size rfl (.tmp 46) (.tmp 49) 60 9 (.string ⟨#[]⟩) 16 rfl Try.underlying60 strInfo rfl (of_decide_eq_true rfl) (of_decide_eq_true rfl) v46 [] (o.take k) (some od) k co (fun _ => True) (fun j => some j ≠ v46.ownBlock) rfl rfl hv46 (by have := Kd.C_take (ROy.out.below hb46).r hk; rw [List.length_take, Nat.min_eq_left hk] at this; exact this) (fun x cs hK => by rw [show cs = [.string x] from hK]; exact kS_mkM _ _ _ x) (fun j hj => ⟨trivial, hj⟩) (fun _ _ => trivial) hb46 hb46.size (by simp; omega) ?_
                  intro v50 w50 hv50 hb50 hg50 hat50
                  refine hK' _ _ ⟨hb50, ?_⟩
                  (try simp only [Act.put, List.setIfInBounds_toArray, List.set_cons_zero, List.set_cons_succ])
                  refine any_one (i := 10) (by kernel_rfl) ?_
                  refine wpOp_step rfl (fun K' hK' => ?_)
                  refine event_step rfl (v := .slice (some ⟨w50.heap.size, 0, none⟩) 1 1) (w1 := w50.alloc (.cells #[.string l[i].key] 9)) (by go_simp) ?_
                  have k56 := blk_new w50 (.cells #[.string l[i].key] 9)
                  have hb56 := below_step hb50 (alloc_belowK w50 (.cells #[.string l[i].key] 9))
                  have hg56 : w50.heap.size < (w50.alloc (.cells #[.string l[i].key] 9)).heap.size := blk_lt k56
                  have ha56 := alloc_belowK w50 (.cells #[.string l[i].key] 9)
                  refine hK' _ _ ⟨hb56, ?_⟩
                  (try simp only [Act.put, List.setIfInBounds_toArray, List.set_cons_zero, List.set_cons_succ])
                  generalize (w50.alloc (.cells #[.string l[i].key] 9)) = w56 at k56 hb56 hg56 ha56 ⊢
                  have hv50 := OwnS.below hv50 ha56
                  refine any_one (i := 11) (by kernel_rfl) ?_
                  refine wpOp_step rfl (fun K' hK' => ?_)
                  refine Kd.R_append_rows_step Kd.string (Rr := Kd.string.K w56) (w0 := wy) wy.heap.size rfl (.tmp 50) (.tmp 56) 60 9 (.string ⟨#[]⟩) 16 rfl Try.underlying60 strInfo rfl (of_decide_eq_true rfl) (of_decide_eq_true rfl) v50 (o.take k) [l[i].key] (some ⟨w50.heap.size, 0, none⟩) 1 1 (fun _ => True) (fun j => some j ≠ v50.ownBlock) rfl rfl hv50 (RS_blk1 k56).r (fun x cs hK => by rw [show cs = [.string x] from hK]; exact kS_mkM _ _ _ x) (fun j hj => ⟨trivial, hj⟩) (fun _ _ => trivial) hb56 hb56.size (by rw [List.length_take]; omega) ?_
                  intro v57 w57 hv57 hb57 hg57 hat57
                  refine hK' _ _ ⟨hb57, ?_⟩
                  (try simp only [Act.put, List.setIfInBounds_toArray, List.set_cons_zero, List.set_cons_succ])
                  refine any_one (i := 15) (by kernel_rfl) ?_
                  refine wpOp_step rfl (fun K' hK' => ?_)
                  refine Kd.R_append_rows_step Kd.string (Rr := Kd.string.K w57) (w0 := wy) wy.heap.size rfl (.tmp 57) (.tmp 60) 60 9 (.string ⟨#[]⟩) 16 rfl Try.underlying60 strInfo rfl (of_decide_eq_true rfl) (of_decide_eq_true rfl) v57 (o.take k ++ [l[i].key]) (o.drop k) Ad (o.length - k) (co - k) (fun _ => True) (fun j => some j ≠ v57.ownBlock) rfl rfl hv57 (by have := Kd.C_below RD.out hb57; rw [List.length_drop] at this; exact this) (fun x cs hK => by rw [show cs = [.string x] from hK]; exact kS_mkM _ _ _ x) (fun j hj => ⟨trivial, hj⟩) (fun _ _ => trivial) hb57 hb57.size (by rw [List.length_append, List.length_take]; simp; omega) ?_
                  intro v61 w61 hv61 hb61 hg61 hat61
                  refine hK' _ _ ⟨hb61, ?_⟩
                  (try simp only [Act.put, List.setIfInBounds_toArray, List.set_cons_zero, List.set_cons_succ])
                  refine any_one (i := 16) (by kernel_rfl) ?_
                  refine wpOp_step rfl (fun K' hK' => ?_)
                  refine event_step rfl (v := v61) (w1 := w61) (by go_simp) ?_
                  refine hK' _ _ ⟨hb61, ?_⟩
                  (try simp only [Act.put, List.setIfInBounds_toArray, List.set_cons_zero, List.set_cons_succ])
                  refine any_done (by kernel_rfl) ?_
                  have HO61 : Hid (OwnS w61 w.heap.size v61 (keysS (l.take (i + 1)))) := Lib.hid (by rw [HE.out]; have h := hv61; rw [List.append_assoc] at h; exact Kd.R_lower h (Nat.le_trans HB.out.size HWY.out.size))
                  have HB61 := Lib.hid (below_step (below_step HB.out HWY.out) hb61)
                  clear hv61 hb61 hg61 hat61 hv57 hb57 hg57 hat57
                  go_wp2
                  go_roundw
                  case rel => exact ⟨i + 1, hlt, by go_num, HO61, HB61⟩
                  case measure => simp [intOf]; omega
                · have hv46o := hv46
                  refine wpOp_step rfl (fun K' hK' => ?_)
                  refine event_step rfl (v := .slice (some ⟨w46.heap.size, 0, none⟩) 1 1) (w1 := w46.alloc (.cells #[.string l[i].key] 9)) (by go_simp) ?_
                  have k56 := blk_new w46 (.cells #[.string l[i].key] 9)
                  have hb56 := below_step hb46 (alloc_belowK w46 (.cells #[.string l[i].key] 9))
                  have hg56 : w46.heap.size < (w46.alloc (.cells #[.string l[i].key] 9)).heap.size := blk_lt k56
                  have ha56 := alloc_belowK w46 (.cells #[.string l[i].key] 9)
                  refine hK' _ _ ⟨hb56, ?_⟩
                  (try simp only [Act.put, List.setIfInBounds_toArray, List.set_cons_zero, List.set_cons_succ])
                  generalize (w46.alloc (.cells #[.string l[i].key] 9)) = w56 at k56 hb56 hg56 ha56 ⊢
                  have hv46 := OwnS.below hv46 ha56
                  refine any_one (i := 4) (by kernel_rfl) ?_
                  refine wpOp_step rfl (fun K' hK' => ?_)
                  refine Kd.R_append_rows_step Kd.string (Rr := Kd.string.K w56) (w0 := wy) wy.heap.size rfl (.tmp 46) (.tmp 49) 60 9 (.string ⟨#[]⟩) 16 rfl Try.underlying60 strInfo rfl (of_decide_eq_true rfl) (of_decide_eq_true rfl) v46 [] (o.take k) (some od) k co (fun _ => True) (fun j => some j ≠ v46.ownBlock) rfl rfl hv46 (by have := Kd.C_take (ROy.out.below hb56).r hk; rw [List.length_take, Nat.min_eq_left hk] at this; exact this) (fun x cs hK => by rw [show cs = [.string x] from hK]; exact kS_mkM _ _ _ x) (fun j hj => ⟨trivial, hj⟩) (fun _ _ => trivial) hb56 hb56.size (by simp; omega) ?_
                  intro v50 w50 hv50 hb50 hg50 hat50
                  refine hK' _ _ ⟨hb50, ?_⟩
                  (try simp only [Act.put, List.setIfInBounds_toArray, List.set_cons_zero, List.set_cons_succ])
                  have k56 := blk_grown k56 hg50 (fun e => by obtain ⟨b, e1, _⟩ := hat46; have := Kd.R_lt hv46o _ e1; rw [e1] at e; have := Option.some.inj e; omega)
                  refine any_one (i := 11) (by kernel_rfl) ?_
                  refine wpOp_step rfl (fun K' hK' => ?_)
                  refine Kd.R_append_rows_step Kd.string (Rr := Kd.string.K w50) (w0 := wy) wy.heap.size rfl (.tmp 50) (.tmp 56) 60 9 (.string ⟨#[]⟩) 16 rfl Try.underlying60 strInfo rfl (of_decide_eq_true rfl) (of_decide_eq_true rfl) v50 (o.take k) [l[i].key] (some ⟨w46.heap.size, 0, none⟩) 1 1 (fun _ => True) (fun j => some j ≠ v50.ownBlock) rfl rfl hv50 (RS_blk1 k56).r (fun x cs hK => by rw [show cs = [.string x] from hK]; exact kS_mkM _ _ _ x) (fun j hj => ⟨trivial, hj⟩) (fun _ _ => trivial) hb50 hb50.size (by rw [List.length_take]; omega) ?_
                  intro v57 w57 hv57 hb57 hg57 hat57
                  refine hK' _ _ ⟨hb57, ?_⟩
                  (try simp only [Act.put, List.setIfInBounds_toArray, List.set_cons_zero, List.set_cons_succ])
                  refine any_one (i := 15) (by kernel_rfl) ?_
                  refine wpOp_step rfl (fun K' hK' => ?_)
                  refine Kd.R_append_rows_step Kd.string (Rr := Kd.string.K w57) (w0 := wy) wy.heap.size rfl (.tmp 57) (.tmp 60) 60 9 (.string ⟨#[]⟩) 16 rfl Try.underlying60 strInfo rfl (of_decide_eq_true rfl) (of_decide_eq_true rfl) v57 (o.take k ++ [l[i].key]) (o.drop k) Ad (o.length - k) (co - k) (fun _ => True) (fun j => some j ≠ v57.ownBlock) rfl rfl hv57 (by have := Kd.C_below RD.out hb57; rw [List.length_drop] at this; exact this) (fun x cs hK => by rw [show cs = [.string x] from hK]; exact kS_mkM _ _ _ x) (fun j hj => ⟨trivial, hj⟩) (fun _ _ => trivial) hb57 hb57.size (by rw [List.length_append, List.length_take]; simp; omega) ?_
                  intro v61 w61 hv61 hb61 hg61 hat61
                  refine hK' _ _ ⟨hb61, ?_⟩
                  (try simp only [Act.put, List.setIfInBounds_toArray, List.set_cons_zero, List.set_cons_succ])
                  refine any_one (i := 16) (by kernel_rfl) ?_
                  refine wpOp_step rfl (fun K' hK' => ?_)
                  refine event_step rfl (v := v61) (w1 := w61) (by go_simp) ?_
                  refine hK' _ _ ⟨hb61, ?_⟩
                  (try simp only [Act.put, List.setIfInBounds_toArray, List.set_cons_zero, List.set_cons_succ])
                  refine any_done (by kernel_rfl) ?_
                  have HO61 : Hid (OwnS w61 w.heap.size v61 (keysS (l.take (i + 1)))) := Lib.hid (by rw [HE.out]; have h := hv61; rw [List.append_assoc] at h; exact Kd.R_lower h (Nat.le_trans HB.out.size HWY.out.size))
                  have HB61 := Lib.hid (below_step (below_step HB.out HWY.out) hb61)
                  clear hv61 hb61 hg61 hat61 hv57 hb57 hg57 hat57
                  go_wp2
                  go_roundw
                  case rel => exact ⟨i + 1, hlt, by go_num, HO61, HB61⟩
                  case measure => simp [intOf]; omega
              · refine wpOp_step rfl (fun K' hK' => ?_)
                refine event_step rfl (v := .slice (some ⟨wz.heap.size, 0, none⟩) 1 1) (w1 := wz.alloc (.cells #[.string l[i].key] 9)) (by go_simp) ?_
                have k56 := blk_new wz (.cells #[.string l[i].key] 9)
                have hb56 := below_step hd (alloc_belowK wz (.cells #[.string l[i].key] 9))
                have hg56 : wz.heap.size < (wz.alloc (.cells #[.string l[i].key] 9)).heap.size := blk_lt k56
                have ha56 := alloc_belowK wz (.cells #[.string l[i].key] 9)
                refine hK' _ _ ⟨hb56, ?_⟩
                (try simp only [Act.put, List.setIfInBounds_toArray, List.set_cons_zero, List.set_cons_succ])
                generalize (wz.alloc (.cells #[.string l[i].key] 9)) = w56 at k56 hb56 hg56 ha56 ⊢
                refine any_one (i := 0) (by kernel_rfl) ?_
                refine wpOp_step rfl (fun K' hK' => ?_)
                refine Kd.R_lit_step Kd.string (w0 := wy) wy.heap.size 9 rfl (N := 46) rfl (xs := ([] : List ByteArray)) (inner := []) (ok := fun _ => True) (okp := fun _ => True) (by go_simp) (Reps.none _ _) (fun _ hk => hk) trivial hb56 hb56.size (by simp) ?_
                intro v46 w46 hv46 hb46 hg46 hat46
                refine hK' _ _ ⟨hb46, ?_⟩
                (try simp only [Act.put, List.setIfInBounds_toArray, List.set_cons_zero, List.set_cons_succ])
                have k56 := blk_grown k56 hg46 (by simp)
                refine any_one (i := 4) (by kernel_rfl) ?_
                refine wpOp_step rfl (fun K' hK' => ?_)
                refine Kd.R_append_rows_step Kd.string (Rr := Kd.string.K w46) (w0 := wy) wy.heap.size rfl (.tmp 46) (.tmp 49) 60 9 (.string ⟨#[]⟩) 16 rfl Try.underlying60 strInfo rfl (of_decide_eq_true rfl) (of_decide_eq_true rfl) v46 [] (o.take k) (some od) k co (fun _ => True) (fun j => some j ≠ v46.ownBlock) rfl rfl hv46 (by have := Kd.C_take (ROy.out.below hb46).r hk; rw [List.length_take, Nat.min_eq_left hk] at this; exact this) (fun x cs hK => by rw [show cs = [.string x] from hK]; exact kS_mkM _ _ _ x) (fun j hj => ⟨trivial, hj⟩) (fun _ _ => trivial) hb46 hb46.size (by simp; omega) ?_
                intro v50 w50 hv50 hb50 hg50 hat50
                refine hK' _ _ ⟨hb50, ?_⟩
                (try simp only [Act.put, List.setIfInBounds_toArray, List.set_cons_zero, List.set_cons_succ])
                have k56 := blk_grown k56 hg50 (fun e => by obtain ⟨b, e1, e2⟩ := hat46; rw [e1] at e; have := Option.some.inj e; omega)
                refine any_one (i := 11) (by kernel_rfl) ?_
                refine wpOp_step rfl (fun K' hK' => ?_)
                refine Kd.R_append_rows_step Kd.string (Rr := Kd.string.K w50) (w0 := wy) wy.heap.size rfl (.tmp 50) (.tmp 56) 60 9 (.string ⟨#[]⟩) 16 rfl Try.underlying60 strInfo rfl (of_decide_eq_true rfl) (of_decide_eq_true rfl) v50 (o.take k) [l[i].key] (some ⟨wz.heap.size, 0, none⟩) 1 1 (fun _ => True) (fun j => some j ≠ v50.ownBlock) rfl rfl hv50 (RS_blk1 k56).r (fun x cs hK => by rw [show cs = [.string x] from hK]; exact kS_mkM _ _ _ x) (fun j hj => ⟨trivial, hj⟩) (fun _ _ => trivial) hb50 hb50.size (by rw [List.length_take]; omega) ?_
                intro v57 w57 hv57 hb57 hg57 hat57
                refine hK' _ _ ⟨hb57, ?_⟩
                (try simp only [Act.put, List.setIfInBounds_toArray, List.set_cons_zero, List.set_cons_succ])
                refine any_one (i := 15) (by kernel_rfl) ?_
                refine wpOp_step rfl (fun K' hK' => ?_)
                refine Kd.R_append_rows_step Kd.string (Rr := Kd.string.K w57) (w0 := wy) wy.heap.size rfl (.tmp 57) (.tmp 60) 60 9 (.string ⟨#[]⟩) 16 rfl Try.underlying60 strInfo rfl (of_decide_eq_true rfl) (of_decide_eq_true rfl) v57 (o.take k ++ [l[i].key]) (o.drop k) Ad (o.length - k) (co - k) (fun _ => True) (fun j => some j ≠ v57.ownBlock) rfl rfl hv57 (by have := Kd.C_below RD.out hb57; rw [List.length_drop] at this; exact this) (fun x cs hK => by rw [show cs = [.string x] from hK]; exact kS_mkM _ _ _ x) (fun j hj => ⟨trivial, hj⟩) (fun _ _ => trivial) hb57 hb57.size (by rw [List.length_append, List.length_take]; simp; omega) ?_
                intro v61 w61 hv61 hb61 hg61 hat61
                refine hK' _ _ ⟨hb61, ?_⟩
                (try simp only [Act.put, List.setIfInBounds_toArray, List.set_cons_zero, List.set_cons_succ])
                refine any_one (i := 16) (by kernel_rfl) ?_
                refine wpOp_step rfl (fun K' hK' => ?_)
                refine event_step rfl (v := v61) (w1 := w61) (by go_simp) ?_
                refine hK' _ _ ⟨hb61, ?_⟩
                (try simp only [Act.put, List.setIfInBounds_toArray, List.set_cons_zero, List.set_cons_succ])
                refine any_done (by kernel_rfl) ?_
                have HO61 : Hid (OwnS w61 w.heap.size v61 (keysS (l.take (i + 1)))) := Lib.hid (by rw [HE.out]; have h := hv61; rw [List.append_assoc] at h; exact Kd.R_lower h (Nat.le_trans HB.out.size HWY.out.size))
                have HB61 := Lib.hid (below_step (below_step HB.out HWY.out) hb61)
                clear hv61 hb61 hg61 hat61 hv57 hb57 hg57 hat57
                go_wp2
                go_roundw
                case rel => exact ⟨i + 1, hlt, by go_num, HO61, HB61⟩
                case measure => simp [intOf]; omega
        · have hke : k = o.length := by omega
          have HAT := Lib.hid (keyAt_eq hk hlow.out (fun h => absurd h hko))
          have HE := Lib.hid (show keysS (l.take (i + 1)) = o.take k ++ l[i].key :: o.drop k by rw [hst.out]; unfold keyIn; rw [HAT.out, List.getElem?_eq_none (by omega), if_neg (fun e => by cases e)])
          have hk1 : decide ((k : Int) < (o.length : Int)) = false := by rw [decide_eq_false_iff_not]; omega
          have hk2 : ((k : Int) == (o.length : Int)) = true := by rw [beq_iff_eq]; omega
          have hk3 : decide (k < o.length) = false := by rw [decide_eq_false_iff_not]; omega
          have hk4 : (k == o.length) = true := by rw [beq_iff_eq]; omega
          clear hke hko
          go_upto_region 6 with fail
          go_quiet (fail)
          go_upto_region 8 with fail
          have hbq : Below wr.heap.size wr (wr.drewN nq) := below_drewN (Below.refl _ _) _
          generalize wr.drewN nq = wv at hbq ⊢
          have HX := Lib.hid (below_step HX.out hbq)
          clear hbq
          obtain ⟨g0, g1, g2, g3⟩ := ri_cells4 (HR.out.below (below_step HB.out HX.out)) hlt
          go_quiet (fail)
          go_upto_region 9 with fail
          have hbq : Below wv.heap.size wv (wv.drewN nq) := below_drewN (Below.refl _ _) _
          generalize wv.drewN nq = wy at hbq ⊢
          have HX := Lib.hid (below_step HX.out hbq)
          clear hbq
          have HWY := HX
          have HRy := Lib.hid (HR.out.below (below_step HB.out HWY.out))
          have ROy := Lib.hid (RO.out.below HWY.out)
          obtain ⟨f0, f1, f2, f3⟩ := ri_cells4 HRy.out hlt
          have q0 : ∀ W1, Below wy.heap.size wy W1 → W1.cell? (ad.add (i * 4)) = some (.string l[i].key) := fun W1 h => (ri_cells4 (HRy.out.below h) hlt).1
          have RD := Lib.hid (Kd.C_drop (c := co) ROy.out.r hk ROy.out.le)
          have hct := str_cut_to Ao o.length co k hk ROy.out.le
          have hcf := str_cut_from Ao o.length co k hk
          have RD : Hid (Kd.string.C wy (if co = k then Ao else Ao.map (·.add (k * 1))) (o.drop k).length (o.drop k)) := RD
          generalize (if co = k then Ao else Ao.map (·.add (k * 1))) = Ad at RD hcf
          clear f0 f1 f2 f3
          try simp only [List.append_eq, List.cons_append, List.nil_append]
          refine region_fst (Below wy.heap.size wy) [1, 2, 3, 5, 6, 7, 8, 9, 12, 13, 14] 6 #[false, true, true, true, false, true, true, true, true, true, false, false, true, true, true, false, false] (by kernel_rfl) (by kernel_rfl) rfl (by kernel_rfl) (by kernel_rfl) (below_drewN (Below.refl _ _) 1) ?_
          iterate 11 ((first | (refine fst_skip rfl rfl ?_; (try simp only [Act.put, List.setIfInBounds_toArray, List.set_cons_zero, List.set_cons_succ])) | ((fail); (try simp only [Act.put, List.setIfInBounds_toArray, List.set_cons_zero, List.set_cons_succ])) | (refine fst_val (v := ?_) rfl rfl (fun W1 hW1 => ?_) ?_; rotate_left; (· (go_simp; try with_reducible rfl)); (try simp only [Act.put, List.setIfInBounds_toArray, List.set_cons_zero, List.set_cons_succ]))))
          refine fst_nil ?_
          have hd : Below wy.heap.size wy wy.drew := below_drewN (Below.refl _ _) 1
          clear q0 hct hcf
          generalize wy.drew = wz at hd ⊢
          refine any_two (i := 0) (j := 10) (by kernel_rfl) ?_ ?_
          · refine wpOp_step rfl (fun K' hK' => ?_)
            refine Kd.R_lit_step Kd.string (w0 := wy) wy.heap.size 9 rfl (N := 46) rfl (xs := ([] : List ByteArray)) (inner := []) (ok := fun _ => True) (okp := fun _ => True) (by go_simp) (Reps.none _ _) (fun _ hk => hk) trivial hd hd.size (by simp) ?_
            intro v46 w46 hv46 hb46 hg46 hat46
            refine hK' _ _ ⟨hb46, ?_⟩
            (try simp only [Act.put, List.setIfInBounds_toArray, List.set_cons_zero, List.set_cons_succ])
            refine any_two (i := 4) (j := 10) (by kernel_rfl) ?_ ?_
            · refine wpOp_step rfl (fun K' hK' => ?_)
              refine Kd.R_append_rows_step Kd.string (Rr := Kd.string.K w46) (w0 := wy) wy.heap.size rfl (.tmp 46) (.tmp 49) 60 9 (.string ⟨#[]⟩) 16 rfl Try.underlying60 strInfo rfl (of_decide_eq_true rfl) (of_decide_eq_true rfl) v46 [] (o.take k) Ao k co (fun _ => True) (fun j => some j ≠ v46.ownBlock) rfl rfl hv46 (by have := Kd.C_take (ROy.out.below hb46).r hk; rw [List.length_take, Nat.min_eq_left hk] at this; exact this) (fun x cs hK => by rw [show cs = [.string x] from hK]; exact kS_mkM _ _ _ x) (fun j hj => ⟨trivial, hj⟩) (fun _ _ => trivial) hb46 hb46.size (by simp; omega) ?_
              intro v50 w50 hv50 hb50 hg50 hat50
              refine hK' _ _ ⟨hb50, ?_⟩
              (try simp only [Act.put, List.setIfInBounds_toArray, List.set_cons_zero, List.set_cons_succ])
              refine any_one (i := 10) (by kernel_rfl) ?_
              refine wpOp_step rfl (fun K' hK' => ?_)
              refine event_step rfl (v := .slice (some ⟨w50.heap.size, 0, none⟩) 1 1) (w1 := w50.alloc (.cells #[.string l[i].key] 9)) (by go_simp) ?_
              have k56 := blk_new w50 (.cells #[.string l[i].key] 9)
              have hb56 := below_step hb50 (alloc_belowK w50 (.cells #[.string l[i].key] 9))
              have hg56 : w50.heap.size < (w50.alloc (.cells #[.string l[i].key] 9)).heap.size := blk_lt k56
              have ha56 := alloc_belowK w50 (.cells #[.string l[i].key] 9)
              refine hK' _ _ ⟨hb56, ?_⟩
              (try simp only [Act.put, List.setIfInBounds_toArray, List.set_cons_zero, List.set_cons_succ])
              generalize (w50.alloc (.cells #[.string l[i].key] 9)) = w56 at k56 hb56 hg56 ha56 ⊢
              have hv50 := OwnS.below hv50 ha56
              refine any_one (i := 11) (by kernel_rfl) ?_
              refine wpOp_step rfl (fun K' hK' => ?_)
              refine Kd.R_append_rows_step Kd.string (Rr := Kd.string.K w56) (w0 := wy) wy.heap.size rfl (.tmp 50) (.tmp 56) 60 9 (.string ⟨#[]⟩) 16 rfl Try.underlying60 strInfo rfl (of_decide_eq_true rfl) (of_decide_eq_true rfl) v50 (o.take k) [l[i].key] (some ⟨w50.heap.size, 0, none⟩) 1 1 (fun _ => True) (fun j => some j ≠ v50.ownBlock) rfl rfl hv50 (RS_blk1 k56).r (fun x cs hK => by rw [show cs = [.string x] from hK]; exact kS_mkM _ _ _ x) (fun j hj => ⟨trivial, hj⟩) (fun _ _ => trivial) hb56 hb56.size (by rw [List.length_take]; omega) ?_
              intro v57 w57 hv57 hb57 hg57 hat57
              refine hK' _ _ ⟨hb57, ?_⟩
              (try simp only [Act.put, List.setIfInBounds_toArray, List.set_cons_zero, List.set_cons_succ])
              refine any_one (i := 15) (by kernel_rfl) ?_
              refine wpOp_step rfl (fun K' hK' => ?_)
              refine Kd.R_append_rows_step Kd.string (Rr := Kd.string.K w57) (w0 := wy) wy.heap.size rfl (.tmp 57) (.tmp 60) 60 9 (.string ⟨#[]⟩) 16 rfl Try.underlying60 strInfo rfl (of_decide_eq_true rfl) (of_decide_eq_true rfl) v57 (o.take k ++ [l[i].key]) (o.drop k) Ad (o.length - k) (co - k) (fun _ => True) (fun j => some j ≠ v57.ownBlock) rfl rfl hv57 (by have := Kd.C_below RD.out hb57; rw [List.length_drop] at this; exact this) (fun x cs hK => by rw [show cs = [.string x] from hK]; exact kS_mkM _ _ _ x) (fun j hj => ⟨trivial, hj⟩) (fun _ _ => trivial) hb57 hb57.size (by rw [List.length_append, List.length_take]; simp; omega) ?_
              intro v61 w61 hv61 hb61 hg61 hat61
              refine hK' _ _ ⟨hb61, ?_⟩
              (try simp only [Act.put, List.setIfInBounds_toArray, List.set_cons_zero, List.set_cons_succ])
              refine any_one (i := 16) (by kernel_rfl) ?_
              refine wpOp_step rfl (fun K' hK' => ?_)
              refine event_step rfl (v := v61) (w1 := w61) (by go_simp) ?_
              refine hK' _ _ ⟨hb61, ?_⟩
              (try simp only [Act.put, List.setIfInBounds_toArray, List.set_cons_zero, List.set_cons_succ])
              refine any_done (by kernel_rfl) ?_
              have HO61 : Hid (OwnS w61 w.heap.size v61 (keysS (l.take (i + 1)))) := Lib.hid (by rw [HE.out]; have h := hv61; rw [List.append_assoc] at h; exact Kd.R_lower h (Nat.le_trans HB.out.size HWY.out.size))
              have HB61 := Lib.hid (below_step (below_step HB.out HWY.out) hb61)
              clear hv61 hb61 hg61 hat61 hv57 hb57 hg57 hat57
              go_wp2
              go_roundw
              case rel => exact ⟨i + 1, hlt, by go_num, HO61, HB61⟩
              case measure => simp [intOf]; omega
            · have hv46o := hv46
              refine wpOp_step rfl (fun K' hK' => ?_)
              refine event_step rfl (v := .slice (some ⟨w46.heap.size, 0, none⟩) 1 1) (w1 := w46.alloc (.cells #[.string l[i].key] 9)) (by go_simp) ?_
              have k56 := blk_new w46 (.cells #[.string l[i].key] 9)
              have hb56 := below_step hb46 (alloc_belowK w46 (.cells #[.string l[i].key] 9))
              have hg56 : w46.heap.size < (w46.alloc (.cells #[.string l[i].key] 9)).heap.size := blk_lt k56
              have ha56 := alloc_belowK w46 (.cells #[.string l[i].key] 9)
              refine hK' _ _ ⟨hb56, ?_⟩
              (try simp only [Act.put, List.setIfInBounds_toArray, List.set_cons_zero, List.set_cons_succ])
              generalize (w46.alloc (.cells #[.string l[i].key] 9)) = w56 at k56 hb56 hg56 ha56 ⊢
              have hv46 := OwnS.below hv46 ha56
              refine any_one (i := 4) (by kernel_rfl) ?_
              refine wpOp_step rfl (fun K' hK' => ?_)
              refine Kd.R_append_rows_step Kd.string (Rr := Kd.string.K w56) (w0 := wy) wy.heap.size rfl (.tmp 46) (.tmp 49) 60 9 (.string ⟨#[]⟩) 16 rfl Try.underlying60 strInfo rfl (of_decide_eq_true rfl) (of_decide_eq_true rfl) v46 [] (o.take k) Ao k co (fun _ => True) (fun j => some j ≠ v46.ownBlock) rfl rfl hv46 (by have := Kd.C_take (ROy.out.below hb56).r hk; rw [List.length_take, Nat.min_eq_left hk] at this; exact this) (fun x cs hK => by rw [show cs = [.string x] from hK]; exact kS_mkM _ _ _ x) (fun j hj => ⟨trivial, hj⟩) (fun _ _ => trivial) hb56 hb56.size (by simp; omega) ?_
              intro v50 w50 hv50 hb50 hg50 hat50
              refine hK' _ _ ⟨hb50, ?_⟩
              (try simp only [Act.put, List.setIfInBounds_toArray, List.set_cons_zero, List.set_cons_succ])
              have k56 := blk_grown k56 hg50 (fun e => by obtain ⟨b, e1, _⟩ := hat46; have := Kd.R_lt hv46o _ e1; rw [e1] at e; have := Option.some.inj e; omega)
              refine any_one (i := 11) (by kernel_rfl) ?_
              refine wpOp_step rfl (fun K' hK' => ?_)
              refine Kd.R_append_rows_step Kd.string (Rr := Kd.string.K w50) (w0 := wy) wy.heap.size rfl (.tmp 50) (.tmp 56) 60 9 (.string ⟨#[]⟩) 16 rfl Try.underlying60 strInfo rfl (of_decide_eq_true rfl) (of_decide_eq_true rfl) v50 (o.take k) [l[i].key] (some ⟨w46.heap.size, 0, none⟩) 1 1 (fun _ => True) (fun j => some j ≠ v50.ownBlock) rfl rfl hv50 (RS_blk1 k56).r (fun x cs hK => by rw [show cs = [.string x] from hK]; exact kS_mkM _ _ _ x) (fun j hj => ⟨trivial, hj⟩) (fun _ _ => trivial) hb50 hb50.size (by rw [List.length_take]; omega) ?_
              intro v57 w57 hv57 hb57 hg57 hat57
              refine hK' _ _ ⟨hb57, ?_⟩
              (try simp only [Act.put, List.setIfInBounds_toArray, List.set_cons_zero, List.set_cons_succ])
              refine any_one (i := 15) (by kernel_rfl) ?_
              refine wpOp_step rfl (fun K' hK' => ?_)
              refine Kd.R_append_rows_step Kd.string (Rr := Kd.string.K w57) (w0 := wy) wy.heap.size rfl (.tmp 57) (.tmp 60) 60 9 (.string ⟨#[]⟩) 16 rfl Try.underlying60 strInfo rfl (of_decide_eq_true rfl) (of_decide_eq_true rfl) v57 (o.take k ++ [l[i].key]) (o.drop k) Ad (o.length - k) (co - k) (fun _ => True) (fun j => some j ≠ v57.ownBlock) rfl rfl hv57 (by have := Kd.C_below RD.out hb57; rw [List.length_drop] at this; exact this) (fun x cs hK => by rw [show cs = [.string x] from hK]; exact kS_mkM _ _ _ x) (fun j hj => ⟨trivial, hj⟩) (fun _ _ => trivial) hb57 hb57.size (by rw [List.length_append, List.length_take]; simp; omega) ?_
              intro v61 w61 hv61 hb61 hg61 hat61
              refine hK' _ _ ⟨hb61, ?_⟩
              (try simp only [Act.put, List.setIfInBounds_toArray, List.set_cons_zero, List.set_cons_succ])
              refine any_one (i := 16) (by kernel_rfl) ?_
              refine wpOp_step rfl (fun K' hK' => ?_)
              refine event_step rfl (v := v61) (w1 := w61) (by go_simp) ?_
              refine hK' _ _ ⟨hb61, ?_⟩
              (try simp only [Act.put, List.setIfInBounds_toArray, List.set_cons_zero, List.set_cons_succ])
              refine any_done (by kernel_rfl) ?_
              have HO61 : Hid (OwnS w61 w.heap.size v61 (keysS (l.take (i + 1)))) := Lib.hid (by rw [HE.out]; have h := hv61; rw [List.append_assoc] at h; exact Kd.R_lower h (Nat.le_trans HB.out.size HWY.out.size))
              have HB61 := Lib.hid (below_step (below_step HB.out HWY.out) hb61)
              clear hv61 hb61 hg61 hat61 hv57 hb57 hg57 hat57
              go_wp2
              go_roundw
              case rel => exact ⟨i + 1, hlt, by go_num, HO61, HB61⟩
              case measure => simp [intOf]; omega
          · refine wpOp_step rfl (fun K' hK' => ?_)
            refine event_step rfl (v := .slice (some ⟨wz.heap.size, 0, none⟩) 1 1) (w1 := wz.alloc (.cells #[.string l[i].key] 9)) (by go_simp) ?_
            have k56 := blk_new wz (.cells #[.string l[i].key] 9)
            have hb56 := below_step hd (alloc_belowK wz (.cells #[.string l[i].key] 9))
            have hg56 : wz.heap.size < (wz.alloc (.cells #[.string l[i].key] 9)).heap.size := blk_lt k56
            have ha56 := alloc_belowK wz (.cells #[.string l[i].key] 9)
            refine hK' _ _ ⟨hb56, ?_⟩
            (try simp only [Act.put, List.setIfInBounds_toArray, List.set_cons_zero, List.set_cons_succ])
            generalize (wz.alloc (.cells #[.string l[i].key] 9)) = w56 at k56 hb56 hg56 ha56 ⊢
            refine any_one (i := 0) (by kernel_rfl) ?_
            refine wpOp_step rfl (fun K' hK' => ?_)
            refine Kd.R_lit_step Kd.string (w0 := wy) wy.heap.size 9 rfl (N := 46) rfl (xs := ([] : List ByteArray)) (inner := []) (ok := fun _ => True) (okp := fun _ => True) (by go_simp) (Reps.none _ _) (fun _ hk => hk) trivial hb56 hb56.size (by simp) ?_
            intro v46 w46 hv46 hb46 hg46 hat46
            refine hK' _ _ ⟨hb46, ?_⟩
            (try simp only [Act.put, List.setIfInBounds_toArray, List.set_cons_zero, List.set_cons_succ])
            have k56 := blk_grown k56 hg46 (by simp)
            refine any_one (i := 4) (by kernel_rfl) ?_
            refine wpOp_step rfl (fun K' hK' => ?_)
            refine Kd.R_append_rows_step Kd.string (Rr := Kd.string.K w46) (w0 := wy) wy.heap.size rfl (.tmp 46) (.tmp 49) 60 9 (.string ⟨#[]⟩) 16 rfl Try.underlying60 strInfo rfl (of_decide_eq_true rfl) (of_decide_eq_true rfl) v46 [] (o.take k) Ao k co (fun _ => True) (fun j => some j ≠ v46.ownBlock) rfl rfl hv46 (by have := Kd.C_take (ROy.out.below hb46).r hk; rw [List.length_take, Nat.min_eq_left hk] at this; exact this) (fun x cs hK => by rw [show cs = [.string x] from hK]; exact kS_mkM _ _ _ x) (fun j hj => ⟨trivial, hj⟩) (fun _ _ => trivial) hb46 hb46.size (by simp; omega) ?_
            intro v50 w50 hv50 hb50 hg50 hat50
            refine hK' _ _ ⟨hb50, ?_⟩
            (try simp only [Act.put, List.setIfInBounds_toArray, List.set_cons_zero, List.set_cons_succ])
            have k56 := blk_grown k56 hg50 (fun e => by obtain ⟨b, e1, e2⟩ := hat46; rw [e1] at e; have := Option.some.inj e; omega)
            refine any_one (i := 11) (by kernel_rfl) ?_
            refine wpOp_step rfl (fun K' hK' => ?_)
            refine Kd.R_append_rows_step Kd.string (Rr := Kd.string.K w50) (w0 := wy) wy.heap.size rfl (.tmp 50) (.tmp 56) 60 9 (.string ⟨#[]⟩) 16 rfl Try.underlying60 strInfo rfl (of_decide_eq_true rfl) (of_decide_eq_true rfl) v50 (o.take k) [l[i].key] (some ⟨wz.heap.size, 0, none⟩) 1 1 (fun _ => True) (fun j => some j ≠ v50.ownBlock) rfl rfl hv50 (RS_blk1 k56).r (fun x cs hK => by rw [show cs = [.string x] from hK]; exact kS_mkM _ _ _ x) (fun j hj => ⟨trivial, hj⟩) (fun _ _ => trivial) hb50 hb50.size (by rw [List.length_take]; omega) ?_
            intro v57 w57 hv57 hb57 hg57 hat57
            refine hK' _ _ ⟨hb57, ?_⟩
            (try simp only [Act.put, List.setIfInBounds_toArray, List.set_cons_zero, List.set_cons_succ])
            refine any_one (i := 15) (by kernel_rfl) ?_
            refine wpOp_step rfl (fun K' hK' => ?_)
            refine Kd.R_append_rows_step Kd.string (Rr := Kd.string.K w57) (w0 := wy) wy.heap.size rfl (.tmp 57) (.tmp 60) 60 9 (.string ⟨#[]⟩) 16 rfl Try.underlying60 strInfo rfl (of_decide_eq_true rfl) (of_decide_eq_true rfl) v57 (o.take k ++ [l[i].key]) (o.drop k) Ad (o.length - k) (co - k) (fun _ => True) (fun j => some j ≠ v57.ownBlock) rfl rfl hv57 (by have := Kd.C_below RD.out hb57; rw [List.length_drop] at this; exact this) (fun x cs hK => by rw [show cs = [.string x] from hK]; exact kS_mkM _ _ _ x) (fun j hj => ⟨trivial, hj⟩) (fun _ _ => trivial) hb57 hb57.size (by rw [List.length_append, List.length_take]; simp; omega) ?_
            intro v61 w61 hv61 hb61 hg61 hat61
            refine hK' _ _ ⟨hb61, ?_⟩
            (try simp only [Act.put, List.setIfInBounds_toArray, List.set_cons_zero, List.set_cons_succ])
            refine any_one (i := 16) (by kernel_rfl) ?_
            refine wpOp_step rfl (fun K' hK' => ?_)
            refine event_step rfl (v := v61) (w1 := w61) (by go_simp) ?_
            refine hK' _ _ ⟨hb61, ?_⟩
            (try simp only [Act.put, List.setIfInBounds_toArray, List.set_cons_zero, List.set_cons_succ])
            refine any_done (by kernel_rfl) ?_
            have HO61 : Hid (OwnS w61 w.heap.size v61 (keysS (l.take (i + 1)))) := Lib.hid (by rw [HE.out]; have h := hv61; rw [List.append_assoc] at h; exact Kd.R_lower h (Nat.le_trans HB.out.size HWY.out.size))
            have HB61 := Lib.hid (below_step (below_step HB.out HWY.out) hb61)
            clear hv61 hb61 hg61 hat61 hv57 hb57 hg57 hat57
            go_wp2
            go_roundw
            case rel => exact ⟨i + 1, hlt, by go_num, HO61, HB61⟩
            case measure => simp [intOf]; omega
    · obtain rfl : i = l.length := by omega
      have e : l.take l.length = l := List.take_length
      rw [e] at HO
      go_wp2
      go_ret
      exact ⟨_, rfl, HO.out, HB.out⟩

end Go.Proofs.Yteadkghffdiaoab
