/- What preempt of layer 10 (pers) answers. -/
import Derived.Test.YtopakonpfbbldaaW8
namespace Go.Proofs.Ytopakonpfbbldaa
set_option linter.unusedSimpArgs false
set_option linter.unusedVariables false
open Go.RowKit

set_option maxRecDepth 100000 in
set_option maxHeartbeats 4000000 in
theorem preempt_bad (t : Tab) (n ac oty key other : Int) (oap : Bool) (aw aT : Option Addr) (cw cT : Nat) (w : World) (hlen : t.ks.length ≤ 1000000)
    (hkw : KeysIn w aw t.ks) (hnw : aw = none → cw = 0) (hkT : KeysIn w aT t.ks) (tk : Bool) (hc : takesF t other = tk)
    (hcase : (tk = false ∧ (other == 0) = true ∧ (t.ty != 0) = false) ∨ (tk = false ∧ (other == 0) = true ∧ (t.ty != 0) = true ∧ forAllF t.ty = false ∧ (other == (keyF t.ks t.h).1) = false) ∨
      (tk = true ∧ (t.ty != 0) = true ∧ knownF oty = false ∧ forAllF t.ty = true ∧ (other == 0) = true) ∨ (tk = true ∧ (t.ty != 0) = true ∧ knownF oty = false ∧ forAllF t.ty = false ∧ (other == (keyF t.ks t.h).1) = true ∧ (other == 0) = true) ∨
      (tk = true ∧ (t.ty != 0) = true ∧ knownF oty = false ∧ forAllF t.ty = false ∧ (other == (keyF t.ks t.h).1) = true ∧ (other == 0) = false)) :
    Calls Try.prog 36 #[.agg #[.int .u32 t.g, .slice aw t.ks.length cw, .int .i64 t.h, .int .i64 t.ty, .bool t.ap], .agg #[.int .u32 t.g, .slice aT t.ks.length cT, .int .i64 t.h, .int .i64 t.ty, .bool t.ap], .int .i64 n,
      .agg #[.int .i64 ac, .int .i64 oty, .int .u64 key, .int .u64 other, .bool oap]] w (ActPost (preemptF t n oty other) w) := by
  have HKW := Lib.hid hkw
  have HKT := Lib.hid hkT
  have HNW := Lib.hid hnw
  have hpr : preemptF t n oty other = (t, 2, []) := by
    rcases hcase with ⟨h0, h3, _⟩ | ⟨h0, h3, _⟩ | ⟨h0, _, h4, _⟩ | ⟨h0, _, h4, _⟩ | ⟨h0, _, h4, _⟩
    all_goals subst h0; simp only [preemptF, hc, *, Bool.not_true, Bool.not_false, Bool.and_true, Bool.and_false, Bool.true_or, Bool.or_true, Bool.false_or, Bool.or_false, if_true]
  have HPR := Lib.hid hpr
  clear hkw hkT hnw hc hpr
  rcases hcase with ⟨h0, h3, h1⟩ | ⟨h0, h3, h1, h2, h5⟩ | ⟨h0, h1, h4, h2, h3⟩ | ⟨h0, h1, h4, h2, h5, h3⟩ | ⟨h0, h1, h4, h2, h5, h3⟩
  all_goals
    clear h0
    go_enter Try.func36, Try.ntmps36
    go_wp2_with (first | (go_at_call 27; (refine (key_any _ _ _ _ _ _ _ _ _ (by omega) (HKT.out.below (by repeat (first | with_reducible assumption | (with_reducible refine Below.setCell ?_ (by first | omega | (simp; done) | (simp; omega)) _) | (with_reducible refine Below.alloc ?_ (by first | omega | (simp; done) | (simp; omega)) _) | (with_reducible refine Below.drew ?_) | (with_reducible refine below_dN ?_ _) | with_reducible exact Below.refl _ _ | (with_reducible refine Below.trans ?_ (Below.mono (by assumption) (by first | omega | (simp; done) | (simp; omega)))))))).mono ?_; rintro e w1 ⟨rfl, hb⟩; obtain ⟨hc, hf, hz⟩ := bcell hb; have HBX := Lib.hid hb; have hs5 := hb.size; simp at hs5; have l0 : w.heap.size < w1.heap.size := (by omega); have l1 : w.heap.size + 1 < w1.heap.size := (by omega); have l2 : w.heap.size + 1 + 1 < w1.heap.size := (by omega); have l3 : w.heap.size + 1 + 1 + 1 < w1.heap.size := (by omega); have l4 : w.heap.size + 1 + 1 + 1 + 1 < w1.heap.size := (by omega); clear hz hs5)) | (go_at_call 28; (refine (forAll_any _ _).mono ?_; rintro e w2 ⟨rfl, rfl⟩)) | (go_at_call 31; (refine (known_any _ _).mono ?_; rintro e w2 ⟨rfl, rfl⟩)))
    refine bodyPost_ret (v := .tuple #[.agg #[.int .u32 t.g, .slice aw t.ks.length cw, .int .i64 t.h, .int .i64 t.ty, .bool t.ap], .int .i64 2, .slice none 0 0]) ?_ rfl ?_
    · simp only [results, Try.results36]
      go_simp
    · unfold ActPost
      rw [HPR.out]
      refine ⟨aw, cw, none, 0, rfl, HKW.out.below ?_, HNW.out, IntsIn.nil _ _, ?_⟩
      all_goals repeat (first | with_reducible assumption | (with_reducible refine Below.setCell ?_ (by first | omega | (simp; done) | (simp; omega)) _) | (with_reducible refine Below.alloc ?_ (by first | omega | (simp; done) | (simp; omega)) _) | (with_reducible refine Below.drew ?_) | (with_reducible refine below_dN ?_ _) | with_reducible exact Below.refl _ _ | (with_reducible refine Below.trans ?_ (Below.mono (by assumption) (by first | omega | (simp; done) | (simp; omega)))))

theorem preempt_any (t : Tab) (n ac oty key other : Int) (oap : Bool) (aw aT : Option Addr) (cw cT : Nat) (w : World) (hlen : t.ks.length ≤ 1000000)
    (hkw : KeysIn w aw t.ks) (hnw : aw = none → cw = 0) (hkT : KeysIn w aT t.ks) :
    Calls Try.prog 36 #[.agg #[.int .u32 t.g, .slice aw t.ks.length cw, .int .i64 t.h, .int .i64 t.ty, .bool t.ap], .agg #[.int .u32 t.g, .slice aT t.ks.length cT, .int .i64 t.h, .int .i64 t.ty, .bool t.ap], .int .i64 n,
      .agg #[.int .i64 ac, .int .i64 oty, .int .u64 key, .int .u64 other, .bool oap]] w (ActPost (preemptF t n oty other) w) := by
  have bad := fun tk hc hcase => preempt_bad t n ac oty key other oap aw aT cw cT w hlen hkw hnw hkT tk hc hcase
  have good := fun hc h1 h4 hcase => preempt_t t n ac oty key other oap aw aT cw cT w hlen hkw hnw hkT hc h1 h4 hcase
  have none := fun hc h3 hcase => preempt_f t n ac oty key other oap aw aT cw cT w hlen hkw hnw hkT hc h3 hcase
  generalize Calls Try.prog 36 _ _ _ = G at *
  generalize hk : knownF oty = kn at *
  generalize ha : forAllF t.ty = fa at *
  have ht : takesF t other = (t.ty != 0 && (fa && other == 0 || !fa && other == (keyF t.ks t.h).1)) := by simp [takesF, ha]
  generalize takesF t other = tk at *
  generalize (t.ty != 0) = ty0 at *
  generalize (other == (keyF t.ks t.h).1) = oe at *
  generalize (other == 0) = o0 at *
  subst ht
  cases ty0 <;> cases fa <;> cases o0 <;> cases oe <;> cases kn <;> simp at bad good none <;> assumption

end Go.Proofs.Ytopakonpfbbldaa
