/- msg.Same and its reference: whether two messages are one; msg.Own: a message in memory of its own. -/
import Derived.Test.YteadkghffdiaoabMsgB
import Derived.Test.YteadkghffdiaoabWEqStruct
set_option linter.unusedVariables false
set_option linter.unusedSimpArgs false
set_option maxRecDepth 100000
namespace Go.Proofs.Yteadkghffdiaoab
open Go.RowKit Go.Proofs.YteadkghffdiaoabW.PrintWords

theorem eqItem (d : Nat) (w : World) (x0 y0 : ByteArray) (x1 y1 : Int) (x2 y2 : Int) (x3 y3 : Bool) :
    (Op.equalIn (d + 2) 25 (.agg #[.string x0, .int .i64 x1, .int .i64 x2, .bool x3]) (.agg #[.string y0, .int .i64 y1, .int .i64 y2, .bool y3])).run Try.prog w = .ok (x0.toList == y0.toList && (x1 == y1 && (x2 == y2 && (x3 == y3)))) w := by
  refine eqA_of Try.underlying25 (by kernel_rfl) ?_
  refine eqf_cons (by rfl) (by go_simp; rfl) (by go_simp; rfl) (by go_simp) ?_
  refine eqf_cons (by rfl) (by go_simp; rfl) (by go_simp; rfl) (by go_simp) ?_
  refine eqf_cons (by rfl) (by go_simp; rfl) (by go_simp; rfl) (by go_simp) ?_
  exact eqf_last (by rfl) (by go_simp; rfl) (by go_simp; rfl) (by go_simp)

theorem item_eq_iff (x y : Item) : x = y ↔ x.key = y.key ∧ x.value = y.value ∧ x.version = y.version ∧ x.gone = y.gone := by
  cases x; cases y; simp
def itemEqB (x y : Item) : Bool := decide (x = y)
theorem run_eql_item (w : World) (x y : Item) : (binOp .eql 25 (.agg (ic x)) (.agg (ic y))).run Try.prog w = .ok (.bool (itemEqB x y)) w := by
  have h : (x.key.toList == y.key.toList && (x.value == y.value && (x.version == y.version && (x.gone == y.gone)))) = itemEqB x y := by
    rw [string_eq, Bool.eq_iff_iff]
    simp [itemEqB, item_eq_iff]
  simp only [binOp]
  simp [Op.equal, Op.maxDepth, eqItem 9998, h]

def endsB (a b : Msg) : Bool := decide (a.kind = b.kind ∧ a.call = b.call ∧ a.frm = b.frm ∧ a.dst = b.dst)
def hopB (a b : Msg) : Bool := decide (a.key = b.key ∧ a.slow = b.slow ∧ a.done = b.done ∧ a.place = b.place)
theorem msg_eq_iff (a b : Msg) : a = b ↔ endsB a b = true ∧ hopB a b = true ∧ a.pred = b.pred ∧ itemEqB a.item b.item = true ∧ a.code = b.code ∧ a.list = b.list := by
  cases a; cases b; simp [endsB, hopB, itemEqB]
  constructor
  · rintro ⟨h1, h2, h3, h4, h5, h6, h7, h8, h9, h10, h11, h12⟩; exact ⟨⟨h1, h2, h3, h4⟩, ⟨h5, h6, h7, h8⟩, h9, h11, h12, h10⟩
  · rintro ⟨⟨h1, h2, h3, h4⟩, ⟨h5, h6, h7, h8⟩, h9, h11, h12, h10⟩; exact ⟨h1, h2, h3, h4, h5, h6, h7, h8, h9, h10, h11, h12⟩

set_option maxHeartbeats 1000000 in
set_option maxRecDepth 100000 in
theorem same_c (a b : Msg) (A B : Option Addr) (c d : Nat) (w : World) (ha : RL w A c a.list) (hb : RL w B d b.list) :
    Calls Try.prog 61 #[.agg (mc a A c), .agg (mc b B d)] w fun e w' => e = .returned (.bool (decide (a = b))) ∧ Below w.heap.size w w' := by
  have hu := Try.underlying28
  have hi := Try.underlying25
  have qi := fun W => run_eql_item W a.item b.item
  have HA := Lib.hid ha
  have HB := Lib.hid hb
  clear ha hb
  go_enter Try.func61, Try.ntmps61
  go_upto_region 1 with (fail)
  obtain ⟨W, hW, hb, k1, k2, hs⟩ := two_new w (.cells (mc a A c) 28) (.cells (mc b B d) 28)
  rw [← hW]
  clear hW hs
  have g1 := cells_all k1
  have g2 := cells_all k2
  have HW := Lib.hid hb; clear hb k1 k2
  go_cut [5] (fun s5 w2 => W = w2 ∧ s5 = .bool (endsB a b))
  case first =>
    go_wp2_with fail
    all_goals go_meet
    all_goals exact ⟨rfl, congrArg Value.bool (by rw [Bool.eq_iff_iff]; simp [endsB, hopB, *])⟩
  case rest =>
    obtain ⟨rfl, rfl⟩ := hcut
    go_upto_region 2 with (fail)
    go_cut [6] (fun s6 w2 => W = w2 ∧ s6 = .bool (hopB a b))
    case first =>
      go_wp2_with fail
      all_goals go_meet
      all_goals exact ⟨rfl, congrArg Value.bool (by rw [Bool.eq_iff_iff]; simp [endsB, hopB, *])⟩
    case rest =>
      obtain ⟨rfl, rfl⟩ := hcut
      cases p1 : endsB a b <;> cases p2 : hopB a b
      all_goals
        go_wp2_with (go_at_call 78; go_must (refine (equal_c _ _ _ _ _ _ _ (HA.out.below HW.out) (HB.out.below HW.out)).mono ?_); rintro e w' ⟨rfl, hb⟩; have HW2 := Lib.hid (below_step HW.out hb); clear hb)
        all_goals
          go_ret
          exact ⟨ret_b (by rw [Bool.eq_iff_iff]; simp [msg_eq_iff, *]), by first | exact HW2.out | exact HW.out⟩

theorem msg_eq_iff2 (a b : Msg) : a = b ↔ a.kind = b.kind ∧ a.call = b.call ∧ a.frm = b.frm ∧ a.dst = b.dst ∧ a.key = b.key ∧ a.slow = b.slow ∧ a.done = b.done ∧ a.place = b.place ∧ a.pred = b.pred ∧ itemEqB a.item b.item = true ∧ a.code = b.code ∧ a.list = b.list := by
  rw [msg_eq_iff]; simp only [endsB, hopB, decide_eq_true_eq]
  constructor
  · rintro ⟨⟨h1, h2, h3, h4⟩, ⟨h5, h6, h7, h8⟩, h9, h10, h11, h12⟩; exact ⟨h1, h2, h3, h4, h5, h6, h7, h8, h9, h10, h11, h12⟩
  · rintro ⟨h1, h2, h3, h4, h5, h6, h7, h8, h9, h10, h11, h12⟩; exact ⟨⟨h1, h2, h3, h4⟩, ⟨h5, h6, h7, h8⟩, h9, h10, h11, h12⟩
theorem msg_ne_list {a b : Msg} (h : a.list ≠ b.list) : decide (a = b) = false := by
  rw [decide_eq_false_iff_not]; rintro rfl; exact h rfl

end Go.Proofs.Yteadkghffdiaoab
