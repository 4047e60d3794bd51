/- What Act of the reference of layer 10 makes of a table, as its Go text has it. No condition; no program is named. -/
import Derived.Test.YtopakonpfbbldaaFnsE
namespace Go.Proofs.Ytopakonpfbbldaa
set_option linter.unusedSimpArgs false
set_option linter.unusedVariables false

/-- Keys without some. -/
def rmvK : List Bool → List Int → List Int
  | s :: ss, k :: l => (if s && k != 0 then 0 else k) :: rmvK ss l
  | _, l => l
/-- Who of some is there, but one. -/
def goneK : Nat → List Bool → List Int → Int → List Int
  | i, s :: ss, k :: l, but => if s && k != 0 && (i : Int) != but then ((i : Nat) : Int) :: goneK (i + 1) ss l but else goneK (i + 1) ss l but
  | _, _, _, _ => []
def rwithF (K : List Int) (h ty : Int) : Int × Int :=
  if decide (0 ≤ h) && K.getD h.toNat 0 == 0 then (if (ty == 7 || ty == 8) && decide (0 < (regsF 0 K).length) then (((regsF 0 K).headD (0, 0)).1, ty) else (-1, 0)) else (h, ty)
def rremoveF (t : Tab) (some : List Bool) (but : Int) : Tab × List Int :=
  let K := rmvK some (keysF t.ks)
  ({ t with ks := regsF 0 K, h := (rwithF K t.h t.ty).1, ty := (rwithF K t.h t.ty).2 }, goneK 0 some (keysF t.ks) but)
def oneB (n : Int) : List Bool := (List.replicate 8 false).set n.toNat true
def rregF (t : Tab) (n ac key other : Int) (ap : Bool) : Tab × Int × List Int :=
  let k := (keysF t.ks).getD n.toNat 0
  if ac == 0 && key != k then (t, 24, [])
  else if k == 0 && other == 0 then (t, 0, [])
  else if k == 0 && t.ks.length == 6 then (t, 8, [])
  else if other == 0 then ((rremoveF { t with g := u32 (t.g + 1), ap := ap } (oneB n) n).1, 0, [])
  else ({ t with g := u32 (t.g + 1), ap := ap, ks := regsF 0 ((keysF t.ks).set n.toNat other) }, 0, [])
def rallF (t : Int) : Bool := t == 7 || t == 8
def rtakesF (t : Tab) (other : Int) : Bool := t.ty != 0 && (rallF t.ty && other == 0 || !rallF t.ty && (keysF t.ks).getD t.h.toNat 0 == other)
def rsome (takes : Bool) (n other : Int) : Nat → List Int → List Bool
  | _, [] => []
  | i, k :: l => (if takes && (i : Int) == n then false else k != 0 && (k == other || takes && other == 0)) :: rsome takes n other (i + 1) l
def rpreF (t : Tab) (n oty other : Int) : Tab × Int × List Int :=
  let takes := rtakesF t other
  let some := rsome takes n other 0 (keysF t.ks)
  if (other == 0 && !takes) || (takes && !knownF oty) then (t, 2, [])
  else if !(some.any id) && !takes then (t, 24, [])
  else
    let r := rremoveF t some n
    ({ r.1 with h := if takes then n else r.1.h, ty := if takes then oty else r.1.ty, g := u32 (r.1.g + 1) }, 0, r.2)
def ractF (t : Tab) (n ac oty key other : Int) (oap : Bool) : Tab × Int × List Int :=
  let mine := (keysF t.ks).getD n.toNat 0
  if decide (ac < 0) || decide (6 < ac) then (t, 2, [])
  else if ac == 0 || ac == 6 then rregF t n ac key other oap
  else if mine == 0 || key != mine then (t, 24, [])
  else if ac == 1 then
    if !knownF oty then (t, 2, [])
    else if t.ty == 0 then ({ t with h := n, ty := oty }, 0, [])
    else if rholdsF t.ks t.h t.ty n && t.ty == oty then (t, 0, [])
    else (t, 24, [])
  else if ac == 2 then
    if !rholdsF t.ks t.h t.ty n then (t, 0, [])
    else if t.ty != oty then (t, 2, [])
    else ({ t with h := -1, ty := 0 }, 0, [])
  else if ac == 3 then
    let r := rremoveF { t with g := u32 (t.g + 1) } (List.replicate 8 true) n
    (r.1, 0, r.2)
  else rpreF t n oty other

/- The two are one, of a table that can be. -/
def keepK (p : Int × Int → Bool) : Nat → List Int → List Int
  | _, [] => []
  | i, k :: l => (if p ((i : Nat), k) then k else 0) :: keepK p (i + 1) l
theorem keepK_length (p : Int × Int → Bool) (K : List Int) : ∀ i, (keepK p i K).length = K.length := by
  induction K with
  | nil => intro i; rfl
  | cons k l ih => intro i; simp [keepK, ih]
theorem filter_regs (p : Int × Int → Bool) (K : List Int) : ∀ i, (regsF i K).filter p = regsF i (keepK p i K) := by
  induction K with
  | nil => intro i; rfl
  | cons k l ih =>
    intro i
    by_cases hk : k = 0
    · simp [regsF, keepK, hk, ih]
    · by_cases hp : p ((i : Nat), k) = true
      · simp [regsF, keepK, hk, hp, ih]
      · simp [regsF, keepK, hk, hp, ih]
theorem rmv_keep (p : Int × Int → Bool) (S : List Bool) (K : List Int) : ∀ i, S.length = K.length → (∀ j (h : j < K.length) (h' : j < S.length), K[j] ≠ 0 → S[j] = !p (((i + j : Nat) : Int), K[j])) → rmvK S K = keepK p i K := by
  induction K generalizing S with
  | nil => intro i h _; cases S <;> rfl
  | cons k l ih =>
    intro i hl h
    cases S with
    | nil => cases hl
    | cons s ss =>
      have h0 := h 0 (by simp) (by simp)
      simp only [List.getElem_cons_zero, Nat.add_zero] at h0
      simp only [rmvK, keepK]
      rw [ih ss (i + 1) (by simpa using hl) (fun j h1 h2 h3 => by
        have := h (j + 1) (by simpa using h1) (by simpa using h2) (by simpa using h3)
        simpa [show i + 1 + j = i + (j + 1) by omega] using this)]
      by_cases hk : k = 0
      · simp [hk]
      · rw [h0 hk]; cases p ((i : Nat), k) <;> simp [hk]
theorem gone_regs (p : Int × Int → Bool) (but : Int) (S : List Bool) (K : List Int) : ∀ i, S.length = K.length → (∀ j (h : j < K.length) (h' : j < S.length), K[j] ≠ 0 → S[j] = p (((i + j : Nat) : Int), K[j])) → othersF (((regsF i K).filter p).map (·.1)) but = goneK i S K but := by
  induction K generalizing S with
  | nil => intro i h _; cases S <;> rfl
  | cons k l ih =>
    intro i hl h
    cases S with
    | nil => cases hl
    | cons s ss =>
      have h0 := h 0 (by simp) (by simp)
      simp only [List.getElem_cons_zero, Nat.add_zero] at h0
      have hi := ih ss (i + 1) (by simpa using hl) (fun j h1 h2 h3 => by
        have := h (j + 1) (by simpa using h1) (by simpa using h2) (by simpa using h3)
        simpa [show i + 1 + j = i + (j + 1) by omega] using this)
      by_cases hk : k = 0
      · simp [regsF, goneK, hk, hi]
      · rw [goneK, h0 hk, ← hi]
        by_cases hp : p ((i : Nat), k) = true
        · by_cases hb : (i : Int) = but
          · subst hb; simp [regsF, hk, hp, othersF]
          · simp [regsF, hk, hp, hb, othersF]
        · simp [regsF, hk, hp, othersF]
theorem any_regs (p : Int × Int → Bool) (S : List Bool) (K : List Int) : ∀ i, S.length = K.length → (∀ j (h : j < K.length) (h' : j < S.length), S[j] = (K[j] != 0 && p (((i + j : Nat) : Int), K[j]))) → (regsF i K).any p = S.any id := by
  induction K generalizing S with
  | nil => intro i h _; cases S with | nil => rfl | cons => cases h
  | cons k l ih =>
    intro i hl h
    cases S with
    | nil => cases hl
    | cons s ss =>
      have h0 := h 0 (by simp) (by simp)
      simp only [List.getElem_cons_zero, Nat.add_zero] at h0
      have hi := ih ss (i + 1) (by simpa using hl) (fun j h1 h2 => by
        have := h (j + 1) (by simpa using h1) (by simpa using h2)
        simpa [show i + 1 + j = i + (j + 1) by omega] using this)
      rw [List.any_cons, ← hi, h0]
      by_cases hk : k = 0
      · simp [regsF, hk]
      · simp [regsF, hk, show (k != 0) = true by simpa using hk]
theorem rsome_length (tk : Bool) (n other : Int) (K : List Int) : ∀ i, (rsome tk n other i K).length = K.length := by
  induction K with
  | nil => intro i; rfl
  | cons k l ih => intro i; simp [rsome, ih]
theorem rsome_get (tk : Bool) (n other : Int) (K : List Int) : ∀ i j (h : j < K.length) (h' : j < (rsome tk n other i K).length), (rsome tk n other i K)[j] = (K[j] != 0 && namedF tk other n (((i + j : Nat) : Int), K[j])) := by
  induction K with
  | nil => intro i j h; simp at h
  | cons k l ih =>
    intro i j h h'
    cases j with
    | zero =>
      simp only [rsome, List.getElem_cons_zero, Nat.add_zero, namedF]
      simp only [bne]
      generalize ((i : Int) == n) = a
      generalize (other == 0) = b
      generalize (k == other) = c
      generalize (k == 0) = d
      cases tk <;> cases a <;> cases b <;> cases c <;> cases d <;> rfl
    | succ j =>
      have := ih (i + 1) j (by simpa using h) (by simpa [rsome] using h')
      simpa [rsome, show i + 1 + j = i + (j + 1) by omega] using this

theorem set_regs (n : Nat) (x : Int) (hx : x ≠ 0) (K : List Int) : ∀ i, i ≤ n → n - i < K.length → K.getD (n - i) 0 ≠ 0 → setF (regsF i K) (n : Nat) x = regsF i (K.set (n - i) x) := by
  induction K with
  | nil => intro i _ h; simp at h
  | cons k l ih =>
    intro i hi hl hk
    by_cases e : n = i
    · subst e
      simp only [Nat.sub_self, List.getD_cons_zero] at hk
      simp [regsF, hk, hx, setF]
    · have e1 : n - i = (n - (i + 1)) + 1 := by omega
      rw [e1, List.getD_cons_succ] at hk
      have := ih (i + 1) (by omega) (by simp at hl; omega) hk
      rw [e1, List.set_cons_succ]
      by_cases hk0 : k = 0
      · simp [regsF, hk0, this]
      · simp [regsF, hk0, setF, this, show ¬ ((i : Nat) : Int) = (n : Int) by omega]
theorem ins_regs (n : Nat) (x : Int) (hx : x ≠ 0) (K : List Int) : ∀ i, i ≤ n → n - i < K.length → K.getD (n - i) 0 = 0 → insF (regsF i K) (n : Nat) x = regsF i (K.set (n - i) x) := by
  induction K with
  | nil => intro i _ h; simp at h
  | cons k l ih =>
    intro i hi hl hk
    by_cases e : n = i
    · subst e
      simp only [Nat.sub_self, List.getD_cons_zero] at hk
      subst hk
      simp only [regsF, beq_self_eq_true, if_true, Nat.sub_self, List.set_cons_zero, beq_iff_eq, hx, if_false]
      cases hr : regsF (n + 1) l with
      | nil => rfl
      | cons r m =>
        obtain ⟨a, b⟩ := r
        have := regsF_key.regsF_mem l (n + 1) (a, b) (by rw [hr]; simp)
        simp only at this
        simp only [insF, show ¬ a < (n : Int) by omega, if_false]
    · have e1 : n - i = (n - (i + 1)) + 1 := by omega
      rw [e1, List.getD_cons_succ] at hk
      have := ih (i + 1) (by omega) (by simp at hl; omega) hk
      rw [e1, List.set_cons_succ]
      by_cases hk0 : k = 0
      · simp [regsF, hk0, this]
      · simp [regsF, hk0, insF, this, show ((i : Nat) : Int) < (n : Int) by omega]
theorem put_regs (K : List Int) (n x : Int) (h0 : 0 ≤ n) (h8 : n < 8) (hK : K.length = 8) (hx : x ≠ 0) :
    putF (regsF 0 K) n x = if K.getD n.toNat 0 = 0 then (if (regsF 0 K).length = 6 then (regsF 0 K, false) else (regsF 0 (K.set n.toNat x), true)) else (regsF 0 (K.set n.toNat x), true) := by
  unfold putF
  rw [regs_key K n h0]
  have hn : ((n.toNat : Nat) : Int) = n := by omega
  by_cases hk : K.getD n.toNat 0 = 0
  · have := ins_regs n.toNat x hx K 0 (Nat.zero_le _) (by omega) (by simpa using hk)
    rw [hn, Nat.sub_zero] at this
    rw [this]; simp only [hk]; simp
  · have := set_regs n.toNat x hx K 0 (Nat.zero_le _) (by omega) (by simpa using hk)
    rw [hn, Nat.sub_zero] at this
    rw [this, if_neg hk]
    have hb : (K.getD n.toNat 0 != 0) = true := by rw [bne_iff_ne]; exact hk
    simp only [hb, if_true]
theorem with_regs (K : List Int) (h ty : Int) : withF (regsF 0 K) h ty = rwithF K h ty := by
  unfold withF rwithF
  by_cases h0 : 0 ≤ h
  · rw [regs_key K h h0]
    have e : (!(regsF 0 K).isEmpty) = decide (0 < (regsF 0 K).length) := by cases regsF 0 K <;> simp
    simp only [forAllF, e, bne, Bool.not_not]
  · simp [h0]
theorem holds_regs (K : List Int) (h ty n : Int) (h0 : 0 ≤ n) (h8 : n < 8) (hK : K.length = 8) : holdsF (regsF 0 K) h ty n = rholdsF (regsF 0 K) h ty n := by
  unfold holdsF rholdsF
  rw [regs_key K n h0, keys_regs K hK]
  simp only [show decide (n < 0) = false by simp; omega, show decide (7 < n) = false by simp; omega, Bool.false_or, forAllF, bne]
  generalize (ty == 0) = a
  generalize (K.getD n.toNat 0 == 0) = b
  generalize (h == n) = c
  generalize (ty == 7) = d
  generalize (ty == 8) = e
  cases a <;> cases b <;> cases c <;> cases d <;> cases e <;> rfl
theorem keyF_off (ks : List (Int × Int)) (n : Int) (hk : okF (-1) ks = true) (hn : ¬ (0 ≤ n ∧ n < 8)) : (keyF ks n).2 = false := by
  cases h : (keyF ks n).2
  · rfl
  · have := okF_mem ks (-1) n hk h; omega
theorem holds_same (ks : List (Int × Int)) (h ty n : Int) (hk : okF (-1) ks = true) : holdsF ks h ty n = rholdsF ks h ty n := by
  by_cases hn : 0 ≤ n ∧ n < 8
  · have := holds_regs (keysF ks) h ty n hn.1 hn.2 (keysF_length ks)
    rwa [regs_keys ks hk] at this
  · unfold holdsF rholdsF
    rw [keyF_off ks n hk hn]
    have : (decide (n < 0) || decide (7 < n)) = true := by simp; omega
    simp [this]
theorem key_get (ks : List (Int × Int)) (n : Int) (hk : okF (-1) ks = true) (h0 : 0 ≤ n) : (keyF ks n) = ((keysF ks).getD n.toNat 0, (keysF ks).getD n.toNat 0 != 0) := by
  have := regs_key (keysF ks) n h0
  rwa [regs_keys ks hk] at this
theorem sound_same (ks : List (Int × Int)) (h ty : Int) : soundF ks h ty = rsoundF ks h ty := by
  unfold soundF rsoundF headF
  cases hk : okF (-1) ks
  · simp
  · by_cases h0 : 0 ≤ h
    · rw [key_get ks h hk h0]
      have e1 : decide (h < -1) = false := by simp; omega
      have e2 : (h == -1) = false := by simp; omega
      simp only [e1, e2, bne]
      by_cases h8 : h < 8
      · have e3 : decide (8 ≤ h) = false := by simp; omega
        have e4 : decide (6 < ks.length) = !decide (ks.length ≤ 6) := by by_cases a : ks.length ≤ 6 <;> simp [a]; omega
        simp only [e3, e4, h0, h8, decide_true]
        generalize decide (ks.length ≤ 6) = a
        generalize ((keysF ks).getD h.toNat 0 == 0) = b
        cases hc : (ty == 0)
        · generalize knownF ty = d
          cases a <;> cases b <;> cases d <;> rfl
        · cases a <;> cases b <;> rfl
      · have e3 : decide (8 ≤ h) = true := by simp; omega
        simp only [e3, h8, decide_false]
        split <;> simp
    · have hno : (keyF ks h).2 = false := keyF_off ks h hk (by omega)
      rw [hno]
      by_cases e : h = -1
      · subst e
        have e4 : decide (6 < ks.length) = !decide (ks.length ≤ 6) := by by_cases a : ks.length ≤ 6 <;> simp [a]; omega
        simp only [e4]
        generalize decide (ks.length ≤ 6) = a
        cases hc : (ty == 0)
        · simp [hc]
        · have : ty = 0 := by simpa using hc
          subst this
          cases a <;> simp
      · have : decide (h < -1) = true := by simp; omega
        simp only [this, h0, decide_false, Bool.or_true, Bool.true_or, Bool.not_true, Bool.false_and, Bool.and_false]
        split <;> simp [e]
theorem bars_same (ks : List (Int × Int)) (h ty n d : Int) (hs : rsoundF ks h ty = true) : barsF ks h ty n d = rbarsF ks h ty n d := by
  have hs' := hs
  simp only [rsoundF, Bool.and_eq_true] at hs
  have hk := hs.1.2
  have hreg : (keyF ks n).2 = (decide (0 ≤ n) && decide (n ≤ 7) && (keysF ks).getD n.toNat 0 != 0) := by
    by_cases hn : 0 ≤ n ∧ n < 8
    · rw [key_get ks n hk hn.1]; simp [hn.1, show n ≤ 7 by omega]
    · rw [keyF_off ks n hk hn]
      by_cases a : 0 ≤ n
      · simp [show ¬ n ≤ 7 by omega]
      · simp [a]
  have hty : ty = 0 ∨ ty = 1 ∨ ty = 3 ∨ ty = 5 ∨ ty = 6 ∨ ty = 7 ∨ ty = 8 := by
    have := hs.2
    split at this
    · left; simp_all
    · right
      simp only [Bool.and_eq_true, knownF, Bool.or_eq_true, beq_iff_eq, decide_eq_true_eq] at this
      omega
  unfold barsF rbarsF
  rw [holds_same ks h ty n hk, hreg]
  have hq : ty = 7 ∨ ty = 8 → rholdsF ks h ty n = (decide (0 ≤ n) && decide (n ≤ 7) && (keysF ks).getD n.toNat 0 != 0) := by
    intro h78
    unfold rholdsF
    have e1 : (ty == 0) = false := by simp; omega
    have e2 : (ty == 7 || ty == 8) = true := by simp; omega
    by_cases hn : 0 ≤ n ∧ n < 8
    · simp [e1, e2, show ¬ n < 0 by omega, show ¬ 7 < n by omega, hn.1, show n ≤ 7 by omega, bne]
    · have : (decide (n < 0) || decide (7 < n)) = true := by simp; omega
      simp only [this, Bool.true_or, Bool.not_true, Bool.false_and]
      by_cases a : 0 ≤ n
      · simp [show ¬ n ≤ 7 by omega]
      · simp [a]
  generalize (decide (0 ≤ n) && decide (n ≤ 7) && (keysF ks).getD n.toNat 0 != 0) = r at hq ⊢
  generalize rholdsF ks h ty n = q at hq ⊢
  cases q
  · rcases hty with rfl | rfl | rfl | rfl | rfl | rfl | rfl
    · rfl
    all_goals
      first
        | (have hr : false = r := hq (by decide); subst hr)
        | skip
      by_cases d6 : d = 6
      · subst d6; (try cases r) <;> rfl
      · by_cases d7 : (d == 7 || d == 8 || d == 9 || d == 10 || d == 11) = true
        · (try cases r) <;> simp [d6, d7]
        · (try cases r) <;> simp [d6, d7]
  · simp

theorem rmvK_length : ∀ (S : List Bool) (K : List Int), (rmvK S K).length = K.length
  | [], _ => by simp [rmvK]
  | _ :: _, [] => by simp [rmvK]
  | s :: ss, k :: l => by simp [rmvK, rmvK_length ss l]
theorem rmv_at : ∀ (k : Nat) (S : List Bool) (K : List Int), (rmvK (S.take k) K).getD k 0 = K.getD k 0
  | 0, S, K => by simp [rmvK]
  | k + 1, [], K => by simp [rmvK]
  | k + 1, s :: ss, [] => by simp [rmvK]
  | k + 1, s :: ss, x :: l => by simp only [List.take_succ_cons, rmvK, List.getD_cons_succ, rmv_at k ss l]
theorem rmv_take : ∀ (k : Nat) (S : List Bool) (K : List Int) (h : k < S.length) (h' : k < K.length), rmvK (S.take (k + 1)) K = if S[k] && K[k] != 0 then (rmvK (S.take k) K).set k 0 else rmvK (S.take k) K
  | 0, s :: ss, x :: l, _, _ => by simp only [List.take_succ_cons, List.take_zero, rmvK, List.getElem_cons_zero, List.set_cons_zero]; split <;> rfl
  | k + 1, s :: ss, x :: l, h, h' => by
    have := rmv_take k ss l (by simpa using h) (by simpa using h')
    rw [List.take_succ_cons, List.take_succ_cons, rmvK, rmvK, this]
    simp only [List.getElem_cons_succ, List.set_cons_succ]
    have h1 : k < ss.length := by simpa using h
    have h2 : k < l.length := by simpa using h'
    by_cases hc : (ss[k] && l[k] != 0) = true
    · rw [if_pos hc, if_pos hc]
    · rw [if_neg hc, if_neg hc]
theorem gone_take : ∀ (k i : Nat) (S : List Bool) (K : List Int) (but : Int) (h : k < S.length) (h' : k < K.length), goneK i (S.take (k + 1)) K but = goneK i (S.take k) K but ++ (if S[k] && K[k] != 0 && ((i + k : Nat) : Int) != but then [((i + k : Nat) : Int)] else [])
  | 0, i, s :: ss, x :: l, but, _, _ => by simp only [List.take_succ_cons, List.take_zero, goneK, List.getElem_cons_zero, Nat.add_zero]; split <;> rfl
  | k + 1, i, s :: ss, x :: l, but, h, h' => by
    have := gone_take k (i + 1) ss l but (by simpa using h) (by simpa using h')
    rw [List.take_succ_cons, List.take_succ_cons, goneK, goneK, this]
    simp only [List.getElem_cons_succ, show i + 1 + k = i + (k + 1) by omega]
    split <;> rfl
theorem goneK_le : ∀ (i : Nat) (S : List Bool) (K : List Int) (but : Int), (goneK i S K but).length ≤ S.length
  | _, [], _, _ => by simp [goneK]
  | _, _ :: _, [], _ => by simp [goneK]
  | i, s :: ss, x :: l, but => by have := goneK_le (i + 1) ss l but; simp only [goneK]; split <;> simp <;> omega
end Go.Proofs.Ytopakonpfbbldaa
