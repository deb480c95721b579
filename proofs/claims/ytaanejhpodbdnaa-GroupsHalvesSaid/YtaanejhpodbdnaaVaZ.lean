/- Plain: an aggregate of a list is that of its parts', and of the list turned about. -/
import Derived.Test.YtaanejhpodbdnaaVaY
namespace Go.Proofs.Ytaanejhpodbdnaa
open Go.RowKit
set_option linter.unusedVariables false

theorem cmpI_neg (a b : Int) : cmpI b a = - cmpI a b := by
  unfold cmpI
  by_cases h1 : a < b
  · rw [if_pos h1, if_neg (by omega), if_pos h1]; rfl
  · by_cases h2 : b < a
    · simp [h1, h2]
    · simp [h1, h2]
theorem cmpI_le (a b : Int) : cmpI a b ≤ 0 ↔ a ≤ b := by
  unfold cmpI
  by_cases h1 : a < b
  · rw [if_pos h1]; omega
  · by_cases h2 : b < a
    · rw [if_neg h1, if_pos h2]; omega
    · rw [if_neg h1, if_neg h2]; omega
theorem cmpI_trans (a b c : Int) (h1 : cmpI a b ≤ 0) (h2 : cmpI b c ≤ 0) : cmpI a c ≤ 0 := by
  rw [cmpI_le] at *; omega
theorem cmpS_cases (a b : ByteArray) : cmpS a b = -1 ∨ cmpS a b = 0 ∨ cmpS a b = 1 := by
  unfold cmpS
  split
  · exact .inl rfl
  · split
    · exact .inr (.inl rfl)
    · exact .inr (.inr rfl)
theorem cmpS_neg (a b : ByteArray) : cmpS b a = - cmpS a b := by
  rcases cmpS_cases a b with h | h | h
  · rw [h, (cmpS_vals b a).2.1.2 ((cmpS_vals a b).1.1 h)]; rfl
  · rw [h, (cmpS_vals b a).2.2.2 ((cmpS_vals a b).2.2.1 h).symm]; rfl
  · rw [h, (cmpS_vals b a).1.2 ((cmpS_vals a b).2.1.1 h)]
theorem cmpS_trans (a b c : ByteArray) (h1 : cmpS a b ≤ 0) (h2 : cmpS b c ≤ 0) : cmpS a c ≤ 0 := by
  have k : ∀ x y : ByteArray, cmpS x y ≤ 0 → Op.bytesLess x.toList y.toList = true ∨ x.toList = y.toList := by
    intro x y h
    rcases cmpS_cases x y with e | e | e
    · exact .inl ((cmpS_vals x y).1.1 e)
    · exact .inr ((cmpS_vals x y).2.2.1 e)
    · omega
  rcases k a b h1 with e1 | e1 <;> rcases k b c h2 with e2 | e2
  · rw [(cmpS_vals a c).1.2 (bl_trans _ _ _ e1 e2)]; omega
  · rw [(cmpS_vals a c).1.2 (by rw [← e2]; exact e1)]; omega
  · rw [(cmpS_vals a c).1.2 (by rw [e1]; exact e2)]; omega
  · rw [(cmpS_vals a c).2.2.2 (e1.trans e2)]; omega
theorem cmpP_neg (a b : Val) : cmpP b a = - cmpP a b := by
  unfold cmpP
  by_cases hk : a.kind = b.kind
  · simp only [hk, ne_eq, not_true_eq_false, if_false]
    by_cases h3 : b.kind = 3
    · simp only [h3, if_true]; rw [cmpF_val, cmpF_val]; exact cmpI_neg _ _
    · simp only [h3, if_false]
      by_cases h4 : b.kind = 4
      · simp only [h4, if_true]; exact cmpS_neg _ _
      · simp only [h4, if_false]; exact cmpI_neg _ _
  · rw [if_pos (fun e => hk e.symm), if_pos hk]; exact cmpI_neg _ _
theorem cmpP_trans (a b c : Val) (h1 : cmpP a b ≤ 0) (h2 : cmpP b c ≤ 0) : cmpP a c ≤ 0 := by
  unfold cmpP at *
  by_cases k1 : a.kind = b.kind
  · rw [if_neg (by rw [k1]; simp)] at h1
    by_cases k2 : b.kind = c.kind
    · rw [if_neg (by rw [k2]; simp)] at h2
      rw [if_neg (by rw [k1, k2]; simp)]
      rw [k1] at h1 ⊢
      by_cases e3 : b.kind = 3
      · rw [if_pos e3, cmpF_val] at *
        exact cmpI_trans _ _ _ h1 h2
      · rw [if_neg e3] at *
        by_cases e4 : b.kind = 4
        · rw [if_pos e4] at *
          exact cmpS_trans _ _ _ h1 h2
        · rw [if_neg e4] at *
          exact cmpI_trans _ _ _ h1 h2
    · rw [if_pos k2] at h2
      rw [k1, if_pos k2]; exact h2
  · rw [if_pos k1] at h1
    by_cases k2 : b.kind = c.kind
    · rw [← k2, if_pos k1]; exact h1
    · rw [if_pos k2] at h2
      have := cmpI_trans _ _ _ h1 h2
      by_cases k3 : a.kind = c.kind
      · exfalso
        rw [cmpI_le] at h1 h2
        omega
      · rw [if_pos k3]; exact this
theorem cmpI_cases (a b : Int) : cmpI a b = -1 ∨ cmpI a b = 0 ∨ cmpI a b = 1 := by
  unfold cmpI
  split
  · exact .inl rfl
  · split
    · exact .inr (.inr rfl)
    · exact .inr (.inl rfl)
theorem cmpP_cases (a b : Val) : cmpP a b = -1 ∨ cmpP a b = 0 ∨ cmpP a b = 1 := by
  unfold cmpP
  split
  · exact cmpI_cases _ _
  · split
    · rw [cmpF_val]; exact cmpI_cases _ _
    · split
      · exact cmpS_cases _ _
      · exact cmpI_cases _ _

/-- a is as good as b, by g. -/
def Good (g : Int) (a b : Val) : Prop := 0 ≤ g * cmpP a b
theorem Good.trans {g : Int} (hg : g = -1 ∨ g = 1) {a b c : Val} (h1 : Good g a b) (h2 : Good g b c) : Good g a c := by
  unfold Good at *
  rcases hg with rfl | rfl
  · have := cmpP_trans a b c (by omega) (by omega)
    omega
  · have e1 := cmpP_neg a b
    have e2 := cmpP_neg b c
    have e3 := cmpP_neg a c
    have := cmpP_trans c b a (by omega) (by omega)
    omega
theorem Good.refl (g : Int) (a : Val) : Good g a a := by
  unfold Good
  have := cmpP_neg a a
  have : cmpP a a = 0 := by omega
  rw [this]; omega
theorem Good.both {g : Int} (hg : g = -1 ∨ g = 1) {a b : Val} (h1 : Good g a b) (h2 : Good g b a) : cmpP a b = 0 := by
  unfold Good at *
  have e1 := cmpP_neg a b
  rcases hg with rfl | rfl <;> omega

/-- h is a best one of those in S. -/
def Best (g : Int) (S : List Val) (h : Val) : Prop :=
  (h = Val.null ∧ ∀ v ∈ S, skipV v = true) ∨ ∃ x ∈ S, skipV x = false ∧ h = plainV x ∧ ∀ v ∈ S, skipV v = false → Good g h (plainV v)

theorem best_step (g : Int) (hg : g = -1 ∨ g = 1) (S : List Val) (h v : Val) (hb : Best g S h) : Best g (S ++ [v]) (if skipV v then h else chooseV g h v) := by
  cases hs : skipV v with
  | true =>
    rw [if_pos rfl]
    rcases hb with ⟨rfl, ha⟩ | ⟨x, hx, hxs, e, ha⟩
    · refine .inl ⟨rfl, fun u hu => ?_⟩
      rcases List.mem_append.1 hu with hu | hu
      · exact ha u hu
      · rw [List.mem_singleton.1 hu]; exact hs
    · refine .inr ⟨x, List.mem_append.2 (.inl hx), hxs, e, fun u hu hus => ?_⟩
      rcases List.mem_append.1 hu with hu | hu
      · exact ha u hu hus
      · rw [List.mem_singleton.1 hu, hs] at hus; cases hus
  | false =>
    simp only [Bool.false_eq_true, if_false]
    obtain ⟨hr, _, hk⟩ := skip_right v hs
    have mem : v ∈ S ++ [v] := List.mem_append.2 (.inr (List.mem_singleton.2 rfl))
    unfold chooseV
    rcases hb with ⟨rfl, ha⟩ | ⟨x, hx, hxs, e, ha⟩
    · rw [if_pos (show Val.null.kind = 0 from rfl)]
      refine .inr ⟨v, mem, hs, rfl, fun u hu hus => ?_⟩
      rcases List.mem_append.1 hu with hu | hu
      · rw [ha u hu] at hus; cases hus
      · rw [List.mem_singleton.1 hu]; exact Good.refl g _
    · obtain ⟨xr, _, xk⟩ := skip_right x hxs
      have hk0 : ¬ h.kind = 0 := by rw [e, plain_kind]; exact xk
      rw [if_neg hk0]
      have ec : cmpV v h = cmpP (plainV v) h := by
        unfold cmpV; rw [e, (plain_plain x xr).1]
      by_cases hc : cmpV v h = g
      · rw [if_pos hc]
        rw [ec] at hc
        have hgood : Good g (plainV v) h := by
          unfold Good; rw [hc]; rcases hg with rfl | rfl <;> omega
        refine .inr ⟨v, mem, hs, rfl, fun u hu hus => ?_⟩
        rcases List.mem_append.1 hu with hu | hu
        · exact hgood.trans hg (ha u hu hus)
        · rw [List.mem_singleton.1 hu]; exact Good.refl g _
      · rw [if_neg hc]
        rw [ec] at hc
        have hgood : Good g h (plainV v) := by
          have en := cmpP_neg (plainV v) h
          have cs := cmpP_cases (plainV v) h
          unfold Good
          rw [en]
          rcases hg with rfl | rfl <;> omega
        refine .inr ⟨x, List.mem_append.2 (.inl hx), hxs, e, fun u hu hus => ?_⟩
        rcases List.mem_append.1 hu with hu | hu
        · exact ha u hu hus
        · rw [List.mem_singleton.1 hu]; exact hgood
theorem best_go (g : Int) (hg : g = -1 ∨ g = 1) : ∀ (l S : List Val) (h : Val), Best g S h → Best g (S ++ l) (goChoose g h l)
  | [], S, h, hb => by rw [List.append_nil]; exact hb
  | v :: l, S, h, hb => by
    rw [goChoose_cons]
    have := best_go g hg l (S ++ [v]) _ (best_step g hg S h v hb)
    rw [List.append_assoc] at this
    exact this
theorem best_all (g : Int) (hg : g = -1 ∨ g = 1) (l : List Val) : Best g l (goChoose g Val.null l) :=
  best_go g hg l [] Val.null (.inl ⟨rfl, fun v hv => by cases hv⟩)
theorem null_skip : skipV Val.null = true := by unfold skipV Val.null; simp
theorem skip_plain (v : Val) (h : skipV v = false) : skipV (plainV v) = false := by
  obtain ⟨hr, _, hk⟩ := skip_right v h
  unfold skipV
  rw [right_plain v hr]
  have : (plainV v).kind ≠ 0 := by rw [plain_kind]; exact hk
  simp [this]
/-- Best ones of lists of the same members are the same value. -/
theorem best_same (g : Int) (hg : g = -1 ∨ g = 1) (S S' : List Val) (hS : ∀ v, v ∈ S ↔ v ∈ S') (h h' : Val) (hb : Best g S h) (hb' : Best g S' h') : cmpV h h' = 0 := by
  rcases hb with ⟨rfl, ha⟩ | ⟨x, hx, hxs, e, ha⟩ <;> rcases hb' with ⟨rfl, ha'⟩ | ⟨y, hy, hys, e', ha'⟩
  · have := cmpP_neg (plainV Val.null) (plainV Val.null)
    unfold cmpV; omega
  · rw [ha y ((hS y).2 hy)] at hys; cases hys
  · rw [ha' x ((hS x).1 hx)] at hxs; cases hxs
  · obtain ⟨xr, _, _⟩ := skip_right x hxs
    obtain ⟨yr, _, _⟩ := skip_right y hys
    unfold cmpV
    have g1 := ha y ((hS y).2 hy) hys
    have g2 := ha' x ((hS x).1 hx) hxs
    rw [← e'] at g1
    rw [← e] at g2
    have : cmpP h h' = 0 := Good.both hg g1 g2
    rw [e, e', (plain_plain x xr).1, (plain_plain y yr).1, ← e, ← e']
    exact this
/-- The best one of the best ones of two lists is a best one of both. -/
theorem best_two (g : Int) (hg : g = -1 ∨ g = 1) (a b : List Val) (X Y R : Val) (hX : Best g a X) (hY : Best g b Y) (hR : Best g [X, Y] R) : Best g (a ++ b) R := by
  have nskip : ∀ (S : List Val) (h : Val), Best g S h → skipV h = true → ∀ v ∈ S, skipV v = true := by
    intro S h hb hs
    rcases hb with ⟨_, ha⟩ | ⟨x, hx, hxs, e, ha⟩
    · exact ha
    · rw [e, skip_plain x hxs] at hs; cases hs
  rcases hR with ⟨rfl, ha⟩ | ⟨Z, hZ, hZs, e, ha⟩
  · refine .inl ⟨rfl, fun v hv => ?_⟩
    rcases List.mem_append.1 hv with hv | hv
    · exact nskip a X hX (ha X (by simp)) v hv
    · exact nskip b Y hY (ha Y (by simp)) v hv
  · have hz : ∃ z ∈ a ++ b, skipV z = false ∧ Z = plainV z := by
      rcases List.mem_cons.1 hZ with rfl | hZ
      · rcases hX with ⟨rfl, _⟩ | ⟨x, hx, hxs, e, _⟩
        · rw [null_skip] at hZs; cases hZs
        · exact ⟨x, List.mem_append.2 (.inl hx), hxs, e⟩
      · rcases List.mem_cons.1 hZ with rfl | hZ
        · rcases hY with ⟨rfl, _⟩ | ⟨x, hx, hxs, e, _⟩
          · rw [null_skip] at hZs; cases hZs
          · exact ⟨x, List.mem_append.2 (.inr hx), hxs, e⟩
        · cases hZ
    obtain ⟨z, hz, hzs, rfl⟩ := hz
    have zr := (skip_right z hzs).1
    rw [(plain_plain z zr).1] at e
    refine .inr ⟨z, hz, hzs, e, fun v hv hvs => ?_⟩
    have side : ∀ (S : List Val) (h : Val), Best g S h → h ∈ [X, Y] → v ∈ S → Good g R (plainV v) := by
      intro S h hb hm hv
      rcases hb with ⟨rfl, hn⟩ | ⟨x, hx, hxs, ex, hx2⟩
      · rw [hn v hv] at hvs; cases hvs
      · have h1 := ha h hm (by rw [ex]; exact skip_plain x hxs)
        rw [ex, (plain_plain x (skip_right x hxs).1).1, ← ex] at h1
        exact h1.trans hg (hx2 v hv hvs)
    rcases List.mem_append.1 hv with hv | hv
    · exact side a X hX (by simp) hv
    · exact side b Y hY (by simp) hv
end Go.Proofs.Ytaanejhpodbdnaa
