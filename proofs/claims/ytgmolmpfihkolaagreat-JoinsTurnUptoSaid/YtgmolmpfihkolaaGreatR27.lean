/- Part of the proof. -/
import Derived.Test.YtgmolmpfihkolaaGreatR26
namespace Go.Proofs.YtgmolmpfihkolaaGreat
open Go.RowKit Go.Proofs.YtgmolmpfihkolaaGreatW.PrintWords Go.Proofs.YtgmolmpfihkolaaGreatW.PrintMore Go.Proofs.YtgmolmpfihkolaaGreat.Pj
set_option linter.unusedVariables false
set_option maxRecDepth 100000
theorem rowsWf_of {t : Tup} (h : wfRs t = true) : rowsWf (rsOf t) := by
 intro l hl v hv
 unfold rsOf at hl
 obtain ⟨r, hr, rfl⟩ := List.mem_map.1 hl
 obtain ⟨x, hx, rfl⟩ := List.mem_map.1 hv
 exact of_decide_eq_true (List.all_eq_true.1 (List.all_eq_true.1 h r hr) x hx)
mutual
theorem evalE_wf {rows : List (List Val)} (h : rowsWf rows) : ∀ e : PE, wfE e = true → (evalV rows (tOf e)).1.wf
 | ⟨k, r, c, v, ks⟩, hw => by
  simp only [wfE, Bool.and_eq_true] at hw
  rw [tOf]
  simp only [evalV]
  unfold combV
  split
  ·exact null_wf
  ·split
   ·exact null_wf
   ·refine opV_wf h _ _ _ _ _ _ (of_decide_eq_true hw.2.2.2.1) ?_
    have hk := evalEs_wf h ks hw.2.2.2.2
    cases ks with
    | nil => exact null_wf
    | cons t ts => exact hk t List.mem_cons_self
theorem evalEs_wf {rows : List (List Val)} (h : rowsWf rows) : ∀ l : List PE, wfEs l = true → ∀ e ∈ l, (evalV rows (tOf e)).1.wf
 | [], _, e, he => by cases he
 | x :: l, hw, e, he => by
  simp only [wfEs, Bool.and_eq_true] at hw
  rcases List.mem_cons.1 he with e1 | he
  ·rw [e1]; exact evalE_wf h x hw.1
  ·exact evalEs_wf h l hw.2 e he
end
theorem tellE_wf {t : Tup} (ht : wfRs t = true) {e : PE} (he : wfE e = true) : (tellV (rsOf t) (tOf e)).1.wf := by
 unfold tellV
 split
 ·exact evalE_wf (rowsWf_of ht) e he
 ·exact null_wf
theorem canon_wf {p : Val} (h : Canon p) : p.wf :=
 ⟨WalkArith.wf_i64 (by have := h.kind; omega), h.iwf, by simpa using h.fwf, by have := h.size; unfold maxLen; omega⟩
theorem plain_wfV {v : Val} (h : v.wf) : wfV (pOf (plainV v)) = true := decide_eq_true (by rw [vOf_pOf]; exact canon_wf (plain_canon h))
def keysP (l : List PE) (t : Tup) : List PV × Bool × Int := ((keysGo (rsOf t) [] true (tsOf l)).1.map pOf, (keysGo (rsOf t) [] true (tsOf l)).2.1, (keysGo (rsOf t) [] true (tsOf l)).2.2)
theorem keys_go (l : List PE) (t : Tup) (hl : wfEs l = true) (ht : wfRs t = true) (hn : l.length ≤ 1000000) : ∀ (m i : Nat) (acc : List Val) (sm : Bool), l.length - i = m → i ≤ l.length → acc.length + m ≤ 2000000 → ∀ K, m + 1 ≤ K →
 joins_Keys.l0 K t (acc.map pOf) sm l (l.length : Int) (i : Int) = some ((keysGo (rsOf t) acc sm (tsOf (l.drop i))).1.map pOf, (keysGo (rsOf t) acc sm (tsOf (l.drop i))).2.1, (keysGo (rsOf t) acc sm (tsOf (l.drop i))).2.2) := by
 intro m
 induction m with
 | zero =>
  intro i acc sm hm hi ha K hK
  obtain ⟨K, rfl⟩ : ∃ K', K = K' + 1 := ⟨K - 1, by omega⟩
  rw [joins_Keys.l0, if_neg (by omega), List.drop_of_length_le (by omega)]; rfl
 | succ m ih =>
  intro i acc sm hm hi ha K hK
  obtain ⟨K, rfl⟩ : ∃ K', K = K' + 1 := ⟨K - 1, by omega⟩
  have hil : i < l.length := by omega
  have he := wfEs_at hl i hil
  have hw := tellE_wf ht he
  rw [joins_Keys.l0, if_pos (by omega), if_pos (by omega), if_pos (by omega), rd53 l i hil, eval_f he ht, Option.bind_some, tsOf_drop l i hil]
  obtain ⟨x, hx⟩ : ∃ x, x = tellV (rsOf t) (tOf l[i]) := ⟨_, rfl⟩
  simp only [keysGo]
  rw [← hx] at hw ⊢
  (try simp only)
  by_cases h1 : x.2 = 0
  ·rw [if_pos h1, if_neg (show ¬ x.2 ≠ 0 from fun h => h h1)]
   have hp : value_Plain.f x.1.kind x.1.int x.1.flt x.1.text = some ((plainV x.1).kind, (plainV x.1).int, (plainV x.1).flt, (plainV x.1).text) := by
    unfold value_Plain.f plainF
    rw [if_pos (show wfV ⟨x.1.kind, x.1.int, x.1.flt, x.1.text⟩ = true from decide_eq_true hw)]; rfl
   have hm2 : (acc ++ [plainV x.1]).map pOf = acc.map pOf ++ [pOf (plainV x.1)] := by rw [List.map_append]; rfl
   cases sm with
   | true =>
    rw [if_pos rfl, hp, Option.bind_some, if_pos (by rw [List.length_map]; omega), w64 (by omega)]
    have := ih (i + 1) (acc ++ [plainV x.1]) (x.1.kind != 0) (by omega) (by omega) (by rw [List.length_append, List.length_singleton]; omega) K (by omega)
    rw [hm2] at this
    have e : (true && decide (x.1.kind ≠ 0)) = (x.1.kind != 0) := by
     rw [Bool.true_and]
     by_cases h : x.1.kind = 0 <;> simp [h]
    rw [e]
    exact this
   | false =>
    rw [if_neg (by simp), hp, Option.bind_some, if_pos (by rw [List.length_map]; omega), w64 (by omega)]
    have := ih (i + 1) (acc ++ [plainV x.1]) false (by omega) (by omega) (by rw [List.length_append, List.length_singleton]; omega) K (by omega)
    rw [hm2] at this
    rw [Bool.false_and]
    exact this
  ·rw [if_neg h1, if_pos (show x.2 ≠ 0 from h1)]; rfl
theorem keys_f (K : Nat) (l : List PE) (t : Tup) (hl : okLs l) (ht : wfRs t = true) (hK : 2000 ≤ K) : joins_Keys.f K l t = some (keysP l t) := by
 unfold joins_Keys.f
 have := hl.2
 exact keys_go l t hl.1 ht (by omega) l.length 0 [] true (by omega) (Nat.zero_le _) (by simp; omega) K (by omega)
theorem keysGo_wf {t : Tup} (ht : wfRs t = true) : ∀ (l : List PE) (acc : List Val) (sm : Bool), wfEs l = true → (∀ v ∈ acc, wfV (pOf v) = true) → (∀ v ∈ (keysGo (rsOf t) acc sm (tsOf l)).1, wfV (pOf v) = true) ∧ (keysGo (rsOf t) acc sm (tsOf l)).1.length ≤ acc.length + l.length
 | [], acc, sm, _, ha => ⟨by rw [tsOf]; exact ha, by rw [tsOf]; simp [keysGo]⟩
 | e :: l, acc, sm, hl, ha => by
  simp only [wfEs, Bool.and_eq_true] at hl
  rw [tsOf]
  simp only [keysGo]
  split
  ·exact ⟨fun v hv => (by cases hv), by simp⟩
  ·have := keysGo_wf ht l (acc ++ [plainV (tellV (rsOf t) (tOf e)).1]) (sm && decide ((tellV (rsOf t) (tOf e)).1.kind ≠ 0)) hl.2 (fun v hv => by
    rcases List.mem_append.1 hv with hv | hv
    ·exact ha v hv
    ·rw [List.mem_singleton.1 hv]; exact plain_wfV (tellE_wf ht hl.1))
   exact ⟨this.1, by have := this.2; rw [List.length_append, List.length_singleton] at this; rw [List.length_cons]; omega⟩
theorem keysP_wf {t : Tup} (ht : wfRs t = true) {l : List PE} (hl : okLs l) : wfR (keysP l t).1 = true ∧ (keysP l t).1.length ≤ 1000 := by
 have h := keysGo_wf ht l [] true hl.1 (fun v hv => by cases hv)
 refine ⟨List.all_eq_true.2 (fun x hx => ?_), ?_⟩
 ·obtain ⟨v, hv, rfl⟩ := List.mem_map.1 hx
  exact h.1 v hv
 ·show (List.map pOf _).length ≤ 1000
  rw [List.length_map]
  have := h.2
  have := hl.2
  have : ([] : List Val).length = 0 := rfl
  omega
def kgo (l : List PE) : List Tup → Nat → List PK → List PK × Int
 | [], _, acc => (acc, 0)
 | t :: ts, i, acc => if (keysP l t).2.2 ≠ 0 then ([], (keysP l t).2.2) else kgo l ts (i + 1) (if (keysP l t).2.1 then acc ++ [⟨(i : Int), (keysP l t).1⟩] else acc)
theorem keyedAll_go (l : List PE) (ts : List Tup) (hl : okLs l) (ht : okTups ts) : ∀ (m i : Nat) (acc : List PK), ts.length - i = m → i ≤ ts.length → acc.length + m ≤ 2000000 → ∀ K, m + 2001 ≤ K → joins_keyedAll.l0 K l acc ts (ts.length : Int) (i : Int) = some (kgo l (ts.drop i) i acc) := by
 intro m
 induction m with
 | zero =>
  intro i acc hm hi ha K hK
  obtain ⟨K, rfl⟩ : ∃ K', K = K' + 1 := ⟨K - 1, by omega⟩
  rw [joins_keyedAll.l0, if_neg (by omega), List.drop_of_length_le (by omega)]; rfl
 | succ m ih =>
  intro i acc hm hi ha K hK
  obtain ⟨K, rfl⟩ : ∃ K', K = K' + 1 := ⟨K - 1, by omega⟩
  have hil : i < ts.length := by omega
  have h1000 := ht.1
  rw [joins_keyedAll.l0, if_pos (by omega), if_pos (by omega), if_pos (by omega), rd6, getD_at _ _ _ hil, keys_f K l _ hl (ht.2 _ (List.getElem_mem hil)).1 (by omega), Option.bind_some, List.drop_eq_getElem_cons hil, kgo]
  obtain ⟨x, hx⟩ : ∃ x, x = keysP l ts[i] := ⟨_, rfl⟩
  rw [← hx]
  by_cases h1 : x.2.2 = 0
  ·rw [if_pos h1, if_neg (show ¬ x.2.2 ≠ 0 from fun h => h h1)]
   by_cases h2 : x.2.1 = true
   ·rw [if_pos h2, if_pos (by omega), if_pos h2, w64 (by omega)]
    exact ih (i + 1) _ (by omega) (by omega) (by rw [List.length_append, List.length_singleton]; omega) K (by omega)
   ·rw [if_neg h2, if_neg h2, w64 (by omega)]
    exact ih (i + 1) _ (by omega) (by omega) (by omega) K (by omega)
  ·rw [if_neg h1, if_pos (show x.2.2 ≠ 0 from h1)]
theorem keyedAll_f (K : Nat) (l : List PE) (ts : List Tup) (hl : okLs l) (ht : okTups ts) (hK : 4000 ≤ K) : joins_keyedAll.f K l ts = some (kgo l ts 0 []) := by
 unfold joins_keyedAll.f
 have := ht.1
 exact keyedAll_go l ts hl ht ts.length 0 [] (by omega) (Nat.zero_le _) (by simp; omega) K (by omega)
def kAt (l : List PE) (t : Tup) (i : Nat) : List PK := if (keysP l t).2.1 then [⟨(i : Int), (keysP l t).1⟩] else []
theorem kgo_list (l : List PE) : ∀ (ts : List Tup) (i : Nat) (acc : List PK), (kgo l ts i acc).2 = 0 → (kgo l ts i acc).1 = acc ++ (ts.zipIdx i).flatMap (fun x => kAt l x.1 x.2)
 | [], i, acc, _ => by simp [kgo]
 | t :: ts, i, acc, h => by
  rw [kgo] at h ⊢
  by_cases h1 : (keysP l t).2.2 ≠ 0
  ·rw [if_pos h1] at h
   exact absurd h h1
  ·rw [if_neg h1] at h ⊢
   rw [kgo_list l ts (i + 1) _ h, List.zipIdx_cons, List.flatMap_cons]
   unfold kAt
   by_cases h2 : (keysP l t).2.1 = true
   ·rw [if_pos h2]; simp [h2]
   ·rw [if_neg h2]; simp [h2]
theorem kgo_mem (l : List PE) {ts : List Tup} {i : Nat} {p : PK} (h : p ∈ (ts.zipIdx i).flatMap (fun x => kAt l x.1 x.2)) : ∃ (k : Nat) (t : Tup), ts[k]? = some t ∧ p.f0 = ((i + k : Nat) : Int) ∧ p.f1 = (keysP l t).1 := by
 obtain ⟨⟨t, j⟩, hx, hp⟩ := List.mem_flatMap.1 h
 obtain ⟨k, hk⟩ := List.mem_iff_getElem?.1 hx
 rw [List.getElem?_zipIdx] at hk
 obtain ⟨t', ht', e⟩ := Option.map_eq_some_iff.1 hk
 obtain ⟨rfl, rfl⟩ : t' = t ∧ i + k = j := by simpa using e
 unfold kAt at hp
 split at hp
 ·have : p = ⟨((i + k : Nat) : Int), (keysP l t').1⟩ := by simpa using hp
  exact ⟨k, t', ht', by rw [this], by rw [this]⟩
 ·cases hp
theorem kgo_up (l : List PE) : ∀ (ts : List Tup) (i : Nat), ((ts.zipIdx i).flatMap (fun x => kAt l x.1 x.2)).Pairwise (fun p q => p.f0 < q.f0)
 | [], i => by simp
 | t :: ts, i => by
  rw [List.zipIdx_cons, List.flatMap_cons]
  refine List.pairwise_append.2 ⟨?_, kgo_up l ts (i + 1), fun p hp q hq => ?_⟩
  ·unfold kAt
   split <;> simp
  ·obtain ⟨k, t', _, e, _⟩ := kgo_mem l hq
   unfold kAt at hp
   split at hp
   ·have : p = ⟨(i : Int), (keysP l t).1⟩ := by simpa using hp
    rw [this, e]
    show (i : Int) < _
    omega
   ·cases hp
theorem kgo_ok (l : List PE) (hl : okLs l) (ts : List Tup) (ht : okTups ts) (h : (kgo l ts 0 []).2 = 0) : okK (kgo l ts 0 []).1 = true ∧ okN (kgo l ts 0 []).1 = true ∧ ∀ p ∈ (kgo l ts 0 []).1, wfR p.f1 = true ∧ p.f1.length ≤ 1000 ∧ 0 ≤ p.f0 ∧ p.f0 < (ts.length : Int) := by
 have e := kgo_list l ts 0 [] h
 rw [List.nil_append] at e
 have each : ∀ p ∈ (kgo l ts 0 []).1, wfR p.f1 = true ∧ p.f1.length ≤ 1000 ∧ 0 ≤ p.f0 ∧ p.f0 < (ts.length : Int) := by
  intro p hp
  rw [e] at hp
  obtain ⟨k, t, hk, e0, e1⟩ := kgo_mem l hp
  have hm := List.mem_of_getElem? hk
  have hkl := (List.getElem?_eq_some_iff.1 hk).1
  have hw := keysP_wf (ht.2 t hm).1 hl
  exact ⟨by rw [e1]; exact hw.1, by rw [e1]; exact hw.2, by omega, by omega⟩
 have hlen : (kgo l ts 0 []).1.length ≤ ts.length := by
  rw [e]
  have : ∀ (ts : List Tup) (i : Nat), ((ts.zipIdx i).flatMap (fun x => kAt l x.1 x.2)).length ≤ ts.length := by
   intro ts
   induction ts with
   | nil => intro i; simp
   | cons t ts ih =>
    intro i
    rw [List.zipIdx_cons, List.flatMap_cons, List.length_append, List.length_cons]
    have h1 : (kAt l t i).length ≤ 1 := by unfold kAt; split <;> simp
    show (kAt l t i).length + _ ≤ _
    have h2 := ih (i + 1)
    omega
  exact this ts 0
 refine ⟨?_, ?_, each⟩
 ·unfold okK
  simp only [Bool.and_eq_true, decide_eq_true_eq, List.all_eq_true]
  exact ⟨by rw [e]; exact kgo_up l ts 0, fun p hp => (each p hp).1, by have := ht.1; omega⟩
 ·unfold okN
  refine List.all_eq_true.2 (fun p hp => ?_)
  obtain ⟨h1, h2, h3, h4⟩ := each p hp
  obtain ⟨n1, n2⟩ := nm_some h1 h2
  have hb : (encR p.f1).length ≤ 100000 := by
   unfold encR
   have hu := encU_length 9 p.f1.length (Nat.lt_of_le_of_lt h2 (by decide))
   have hf : ∀ l : List PV, wfR l = true → (l.flatMap (fun v => encP (plainV (vOf v)))).length ≤ l.length * 80 := by
    intro l
    induction l with
    | nil => intro _; simp
    | cons a l ih =>
     intro hw
     simp only [wfR, List.all_cons, Bool.and_eq_true] at hw
     rw [List.flatMap_cons, List.length_append, List.length_cons]
     have q1 := encP_length (plain_canon (of_decide_eq_true hw.1 : (vOf a).wf))
     have q2 := ih hw.2
     omega
   have := hf p.f1 h1
   rw [List.length_append]
   omega
  simp only [Bool.and_eq_true, decide_eq_true_eq]
  refine ⟨by rw [n1]; rfl, by rw [n2, strOfNums_size]; unfold maxLen; omega, WalkArith.wf_i64 ?_⟩
  have := ht.1
  omega
def kerr (l : List PE) : List Tup → Int
 | [] => 0
 | t :: ts => if (keysP l t).2.2 ≠ 0 then (keysP l t).2.2 else kerr l ts
theorem kgo_err (l : List PE) : ∀ (ts : List Tup) (i : Nat) (acc : List PK), (kgo l ts i acc).2 = kerr l ts
 | [], i, acc => rfl
 | t :: ts, i, acc => by
  rw [kgo, kerr]
  split
  ·rfl
  ·exact kgo_err l ts _ _
theorem kgo_length (l : List PE) (ts : List Tup) (h : (kgo l ts 0 []).2 = 0) : (kgo l ts 0 []).1.length ≤ ts.length := by
 rw [kgo_list l ts 0 [] h, List.nil_append]
 have : ∀ (ts : List Tup) (i : Nat), ((ts.zipIdx i).flatMap (fun x => kAt l x.1 x.2)).length ≤ ts.length := by
  intro ts
  induction ts with
  | nil => intro i; simp
  | cons t ts ih =>
   intro i
   rw [List.zipIdx_cons, List.flatMap_cons, List.length_append, List.length_cons]
   have h1 : (kAt l t i).length ≤ 1 := by unfold kAt; split <;> simp
   have h2 := ih (i + 1)
   show (kAt l t i).length + _ ≤ _
   omega
 exact this ts 0
theorem both_f (a b : List Tup) (l2 l3 : List PE) (ha : okTups a) (hb : okTups b) (h2 : okLs l2) (h3 : okLs l3) (K : Nat) (hK : 5000 ≤ K) : joins_both.f K a b l2 l3 = some (if l2.length ≠ l3.length ∨ l2.length = 0 then ([], [], 2) else if kerr l2 a ≠ 0 then ([], [], kerr l2 a) else if kerr l3 b ≠ 0 then ([], [], kerr l3 b) else ((kgo l2 a 0 []).1, (kgo l3 b 0 []).1, 0)) := by
 obtain ⟨K, rfl⟩ : ∃ K', K = K' + 1 := ⟨K - 1, by omega⟩
 unfold joins_both.f
 by_cases e1 : l2.length = l3.length
 ·rw [if_pos (by omega), joins_both.j0]
  by_cases e2 : l2.length = 0
  ·rw [if_pos (show ((l2.length : Int) == 0) = true by simp [e2]), if_pos (Or.inr e2)]
  ·rw [if_neg (show ¬ ((l2.length : Int) == 0) = true from fun h => e2 (by rw [beq_iff_eq] at h; omega)), if_neg (show ¬ (l2.length ≠ l3.length ∨ l2.length = 0) by omega), keyedAll_f K l2 a h2 ha (by omega), Option.bind_some, kgo_err]
   by_cases e3 : kerr l2 a = 0
   ·rw [if_pos e3, if_neg (show ¬ kerr l2 a ≠ 0 from fun h => h e3), keyedAll_f K l3 b h3 hb (by omega), Option.bind_some, kgo_err]
    by_cases e4 : kerr l3 b = 0
    ·rw [if_pos e4, if_neg (show ¬ kerr l3 b ≠ 0 from fun h => h e4)]
    ·rw [if_neg e4, if_pos (show kerr l3 b ≠ 0 from e4)]
   ·rw [if_neg e3, if_pos (show kerr l2 a ≠ 0 from e3)]
 ·rw [if_neg (by omega), joins_both.j0, if_pos rfl, if_pos (Or.inl e1)]
def keyedR (a b : List Tup) (l2 l3 l4 : List PE) : List Tup × Int := if l2.length ≠ l3.length ∨ l2.length = 0 then ([], 2) else if kerr l2 a ≠ 0 then ([], kerr l2 a) else if kerr l3 b ≠ 0 then ([], kerr l3 b) else toldGo a b l4 (pairsOf (kgo l2 a 0 []).1 (kgo l3 b 0 []).1) []
theorem hash_pairs {xs ys : List PK} (hx : ∀ p ∈ xs, wfR p.f1 = true ∧ p.f1.length ≤ 1000) (hy : ∀ p ∈ ys, wfR p.f1 = true ∧ p.f1.length ≤ 1000) : hashPairs xs ys = pairsOf xs ys := by
 unfold hashPairs pairsOf
 rw [List.flatMap_def, List.flatMap_def]
 congr 1
 refine List.map_congr_left (fun p hp => ?_)
 unfold nmeet meetOf
 congr 1
 refine List.filter_congr (fun q hq => ?_)
 have := nm_one (hx p hp).1 (hy q hq).1 (hx p hp).2 (hy q hq).2
 by_cases e : kc p q = 0
 ·rw [decide_eq_true (this.2 e), e]; rfl
 ·rw [decide_eq_false (fun h => e (this.1 h))]; simp [e]
theorem pairs_in (a b : List Tup) {xs ys : List PK} (hx : ∀ p ∈ xs, 0 ≤ p.f0 ∧ p.f0 < (a.length : Int)) (hy : ∀ p ∈ ys, 0 ≤ p.f0 ∧ p.f0 < (b.length : Int)) : ∀ p ∈ pairsOf xs ys, inAB a b p := by
 intro p hp
 unfold pairsOf at hp
 obtain ⟨x, hxm, hp⟩ := List.mem_flatMap.1 hp
 unfold meetOf at hp
 obtain ⟨y, hym, rfl⟩ := List.mem_map.1 hp
 have h1 := hx x hxm
 have h2 := hy y (List.mem_filter.1 hym).1
 exact ⟨h1.1, h1.2, h2.1, h2.2⟩
theorem keyed_both (a b : List Tup) (l2 l3 l4 : List PE) (ha : okTups a) (hb : okTups b) (h2 : okLs l2) (h3 : okLs l3) (h4 : okLs l4) (na : a.length ≤ 30) (nb : b.length ≤ 30) : keyedF a b l2 l3 l4 = some (keyedR a b l2 l3 l4) ∧ hashF a b l2 l3 l4 = some (keyedR a b l2 l3 l4) := by
 unfold keyedF hashF keyedR
 rw [both_f a b l2 l3 ha hb h2 h3 KF (by unfold KF; omega), Option.bind_some, Option.bind_some]
 by_cases e1 : l2.length ≠ l3.length ∨ l2.length = 0
 ·rw [if_pos e1, if_pos e1]
  exact ⟨rfl, rfl⟩
 ·rw [if_neg e1, if_neg e1]
  by_cases e2 : kerr l2 a ≠ 0
  ·rw [if_pos e2, if_pos e2]
   simp only
   rw [if_neg e2, if_neg e2]
   exact ⟨rfl, rfl⟩
  ·rw [if_neg e2, if_neg e2]
   by_cases e3 : kerr l3 b ≠ 0
   ·rw [if_pos e3, if_pos e3]
    simp only
    rw [if_neg e3, if_neg e3]
    exact ⟨rfl, rfl⟩
   ·rw [if_neg e3, if_neg e3]
    simp only
    have z2 : (kgo l2 a 0 []).2 = 0 := by rw [kgo_err]; simpa using e2
    have z3 : (kgo l3 b 0 []).2 = 0 := by rw [kgo_err]; simpa using e3
    obtain ⟨o1, o2, o3⟩ := kgo_ok l2 h2 a ha z2
    obtain ⟨o4, o5, o6⟩ := kgo_ok l3 h3 b hb z3
    have hin := pairs_in a b (fun p hp => ⟨(o3 p hp).2.2.1, (o3 p hp).2.2.2⟩) (fun p hp => ⟨(o6 p hp).2.2.1, (o6 p hp).2.2.2⟩)
    have hlen : (pairsOf (kgo l2 a 0 []).1 (kgo l3 b 0 []).1).length ≤ 30 * 30 :=
     Nat.le_trans (pairs_length _ _) (Nat.mul_le_mul (Nat.le_trans (kgo_length l2 a z2) na) (Nat.le_trans (kgo_length l3 b z3) nb))
    have ht := told_f a b l4 ha hb h4 _ hin KF (by unfold KF; omega) (by unfold KF; omega)
    rw [o1, o2, o4, o5, hash_pairs (fun p hp => ⟨(o3 p hp).1, (o3 p hp).2.1⟩) (fun p hp => ⟨(o6 p hp).1, (o6 p hp).2.1⟩)]
    exact ⟨ht, ht⟩
end Go.Proofs.YtgmolmpfihkolaaGreat
namespace Go.Proofs.YtgmolmpfihkolaaGreat.Pj
open Go.RowKit Go.Proofs.YtgmolmpfihkolaaGreatW.PrintWords Go.Proofs.YtgmolmpfihkolaaGreatW.PrintLast Go.Proofs.YtgmolmpfihkolaaGreatW.PrintMore
attribute [local go_sem] run_store_flt max2_int min2_int max_two min_two max_three min_three max_four min_four
set_option linter.unusedVariables false
set_option linter.unusedSimpArgs false
def a27_all.f (l0 : List (S53)) (l1 : List (S53)) (l2 : List (S53)) : Option ((List (S53))) := (some (([] : List (S53)) : List (S53))).bind fun y123 => (if y123.length + l0.length < 1599289640401 then ((some (y123 ++ l0 : List (S53))).bind fun y126 => (if y126.length + l1.length < 1599289640401 then ((some (y126 ++ l1 : List (S53))).bind fun y129 => (if y129.length + l2.length < 1599289640401 then (some (y129 ++ l2)) else (none))) else (none))) else (none))
set_option maxHeartbeats 8000000 in
set_option maxRecDepth 100000 in
theorem a27_all.calls (P0_ : Nat → Prop) (A0 : Option Addr) (c0 : Nat) (l0 : List (S53)) (P1_ : Nat → Prop) (A1 : Option Addr) (c1 : Nat) (l1 : List (S53)) (P2_ : Nat → Prop) (A2 : Option Addr) (c2 : Nat) (l2 : List (S53)) (r : List (S53)) (w : World) (hs0 : Kd.V k53 53 w w.heap.size (fun k_ => P0_ k_) (.slice A0 l0.length c0) l0) (hs1 : Kd.V k53 53 w w.heap.size (fun k_ => P1_ k_) (.slice A1 l1.length c1) l1) (hs2 : Kd.V k53 53 w w.heap.size (fun k_ => P2_ k_) (.slice A2 l2.length c2) l2) (h : a27_all.f l0 l1 l2 = some r) :
 Calls Tryz.prog 15 #[.slice A0 l0.length c0, .slice A1 l1.length c1, .slice A2 l2.length c2] w fun e w' => ∃ v0_ : Value, e = .returned (v0_) ∧ Kd.N k53 53 w' w.heap.size (fun k_ => ((P0_ k_ ∨ P1_ k_ ∨ P2_ k_) ∨ w.heap.size ≤ k_)) v0_ r ∧ Below w.heap.size w w' := by
 have HO0 := akk (show Kd.V k53 53 w w.heap.size (fun k_ => ((P0_ k_ ∨ P1_ k_ ∨ P2_ k_) ∨ w.heap.size ≤ k_)) (.slice A0 l0.length c0) l0 from Kd.V_mono hs0 (fun k_ hk => .inl (.inl hk)))
 have HO1 := akk (show Kd.V k53 53 w w.heap.size (fun k_ => ((P0_ k_ ∨ P1_ k_ ∨ P2_ k_) ∨ w.heap.size ≤ k_)) (.slice A1 l1.length c1) l1 from Kd.V_mono hs1 (fun k_ hk => .inl (.inr (.inl hk))))
 have HO2 := akk (show Kd.V k53 53 w w.heap.size (fun k_ => ((P0_ k_ ∨ P1_ k_ ∨ P2_ k_) ∨ w.heap.size ≤ k_)) (.slice A2 l2.length c2) l2 from Kd.V_mono hs2 (fun k_ hk => .inl (.inr (.inr hk))))
 have HB := akk (Below.refl w.heap.size w)
 have H : ((some (([] : List (S53)) : List (S53))).bind fun y123 => (if y123.length + l0.length < 1599289640401 then ((some (y123 ++ l0 : List (S53))).bind fun y126 => (if y126.length + l1.length < 1599289640401 then ((some (y126 ++ l1 : List (S53))).bind fun y129 => (if y129.length + l2.length < 1599289640401 then (some (y129 ++ l2)) else (none))) else (none))) else (none))) = some r := h
 clear h
 obtain ⟨y123, hy123⟩ : ∃ y_ : List (S53), y_ = (([] : List (S53))) := ⟨_, rfl⟩
 replace H : (if y123.length + l0.length < 1599289640401 then ((some (y123 ++ l0 : List (S53))).bind fun y126 => (if y126.length + l1.length < 1599289640401 then ((some (y126 ++ l1 : List (S53))).bind fun y129 => (if y129.length + l2.length < 1599289640401 then (some (y129 ++ l2)) else (none))) else (none))) else (none)) = some r := jT hy123 H
 have Ny123 := akk hy123
 clear hy123
 by_cases c4 : y123.length + l0.length < 1599289640401
 ·rw [if_pos c4] at H
  have LMc4 := akk c4
  clear c4
  obtain ⟨y126, hy126⟩ : ∃ y_ : List (S53), y_ = (y123 ++ l0) := ⟨_, rfl⟩
  replace H : (if y126.length + l1.length < 1599289640401 then ((some (y126 ++ l1 : List (S53))).bind fun y129 => (if y129.length + l2.length < 1599289640401 then (some (y129 ++ l2)) else (none))) else (none)) = some r := jT hy126 H
  have Ny126 := akk hy126
  clear hy126
  by_cases c5 : y126.length + l1.length < 1599289640401
  ·rw [if_pos c5] at H
   have LMc5 := akk c5
   clear c5
   obtain ⟨y129, hy129⟩ : ∃ y_ : List (S53), y_ = (y126 ++ l1) := ⟨_, rfl⟩
   replace H : (if y129.length + l2.length < 1599289640401 then (some (y129 ++ l2)) else (none)) = some r := jT hy129 H
   have Ny129 := akk hy129
   clear hy129
   by_cases c6 : y129.length + l2.length < 1599289640401
   ·rw [if_pos c6] at H
    have LMc6 := akk c6
    clear c6
    obtain ⟨y132, hy132⟩ : ∃ y_ : List (S53), y_ = (y129 ++ l2) := ⟨_, rfl⟩
    replace H : (some y132) = some r := jT hy132 H
    have Ny132 := akk hy132
    clear hy132
    obtain rfl := Option.some.inj H
    go_enter Tryz.func15, Tryz.ntmps15
    go_wp2_with (first | ((with_reducible refine gate_dst (N := 7) rfl ?_); refine Kd.N_lit k53 _ 53 ?hg (N' := 7) ?hd (xs := ([] : List (S53))) (inner := []) (ok := (fun k_ => ((P0_ k_ ∨ P1_ k_ ∨ P2_ k_) ∨ w.heap.size ≤ k_))) (okp := (fun k_ => ((P0_ k_ ∨ P1_ k_ ∨ P2_ k_) ∨ w.heap.size ≤ k_))) ?hr ?hp (fun _ hk => hk) ((show ∀ k_, w.heap.size ≤ k_ → (fun k_ => ((P0_ k_ ∨ P1_ k_ ∨ P2_ k_) ∨ w.heap.size ≤ k_)) k_ from fun k_ hk => (.inr (Nat.le_trans (below_size bT) hk))) _ (Nat.le_refl _)) (Below.refl _ _) (Nat.le_refl _) (by simp) ?_; (case hd => rfl); (case hg => rfl); (case hr => first | (go_simp; done) | (go_simp; rfl)); (case hp => exact (Reps.none _ _)); intro v124 w7 ho8 hb hg_ hnew_; clear hg_ hnew_; (first | rw [← Ny123.out] at ho8 | (simp only [Int.reduceToNat] at ho8; rw [← Ny123.out] at ho8)); replace HO0 := ve HO0 ho8 hb; replace HO1 := ve HO1 ho8 hb; replace HO2 := ve HO2 ho8 hb; have HO125 := akk (Kd.N_lower ho8 (below_size bT)); replace HB := bb HB hb; clear hb ho8) | ((with_reducible refine gA #[.tmp 7, .tmp 8] rfl ?_); at_builtin; refine Kd.N_append_rows k53 (w0 := w) w.heap.size rfl (.tmp 7) (.tmp 8) 23 53 (.agg #[(.int .i64 0), (.int .i64 0), (.int .i64 0), (.int .i64 0), (.int .i64 0), (.float .f64 0), (.string ⟨#[]⟩), (.slice none 0 0)]) 88 rfl Tryz.underlying23 info53 rfl (by decide) (by omega) v124 y123 l0 _ _ _ (fun k_ => ((P0_ k_ ∨ P1_ k_ ∨ P2_ k_) ∨ w.heap.size ≤ k_)) (fun k_ => ((fun k_ => ((P0_ k_ ∨ P1_ k_ ∨ P2_ k_) ∨ w.heap.size ≤ k_))) k_ ∧ some k_ ≠ (v124 : Value).ownBlock) rfl rfl ?aO ?aR (fun _ hk => hk) ?aF ?aB ?aS ?aL ?_; (case aR => exact (by skip; exact Kd.V_F (Kd.V_mono (ok' := (fun k_ => ((fun k_ => ((P0_ k_ ∨ P1_ k_ ∨ P2_ k_) ∨ w.heap.size ≤ k_))) k_ ∧ some k_ ≠ (v124 : Value).ownBlock)) (HO0.out) (fun k_ hk => ⟨hk.1, hk.2⟩)))); (case aB => exact bT); (case aF => exact (fun k_ hk => (.inr (Nat.le_trans (below_size bT) hk)))); (case aO => exact (nT HO125.out)); (case aS => exact (below_size bT)); (case aL => have := LMc4.out; omega); intro v127 w9 ho hb hg hat; rw [← Ny126.out] at ho; replace HO0 := va HO0 hg hat; replace HO1 := va HO1 hg hat; replace HO2 := va HO2 hg hat; replace HB := akk (hb); have HO128 := akk (ho); clear HO125; clear ho hb hg hat) | ((with_reducible refine gA #[.tmp 9, .tmp 10] rfl ?_); at_builtin; refine Kd.N_append_rows k53 (w0 := w) w.heap.size rfl (.tmp 9) (.tmp 10) 23 53 (.agg #[(.int .i64 0), (.int .i64 0), (.int .i64 0), (.int .i64 0), (.int .i64 0), (.float .f64 0), (.string ⟨#[]⟩), (.slice none 0 0)]) 88 rfl Tryz.underlying23 info53 rfl (by decide) (by omega) v127 y126 l1 _ _ _ (fun k_ => ((P0_ k_ ∨ P1_ k_ ∨ P2_ k_) ∨ w.heap.size ≤ k_)) (fun k_ => ((fun k_ => ((P0_ k_ ∨ P1_ k_ ∨ P2_ k_) ∨ w.heap.size ≤ k_))) k_ ∧ some k_ ≠ (v127 : Value).ownBlock) rfl rfl ?aO ?aR (fun _ hk => hk) ?aF ?aB ?aS ?aL ?_; (case aR => exact (by skip; exact Kd.V_F (Kd.V_mono (ok' := (fun k_ => ((fun k_ => ((P0_ k_ ∨ P1_ k_ ∨ P2_ k_) ∨ w.heap.size ≤ k_))) k_ ∧ some k_ ≠ (v127 : Value).ownBlock)) (HO1.out) (fun k_ hk => ⟨hk.1, hk.2⟩)))); (case aB => exact bT); (case aF => exact (fun k_ hk => (.inr (Nat.le_trans (below_size bT) hk)))); (case aO => exact (nT HO128.out)); (case aS => exact (below_size bT)); (case aL => have := LMc5.out; omega); intro v130 w10 ho hb hg hat; rw [← Ny129.out] at ho; replace HO0 := va HO0 hg hat; replace HO1 := va HO1 hg hat; replace HO2 := va HO2 hg hat; replace HB := akk (hb); have HO131 := akk (ho); clear HO128; clear ho hb hg hat) | ((with_reducible refine gA #[.tmp 11, .tmp 12] rfl ?_); at_builtin; refine Kd.N_append_rows k53 (w0 := w) w.heap.size rfl (.tmp 11) (.tmp 12) 23 53 (.agg #[(.int .i64 0), (.int .i64 0), (.int .i64 0), (.int .i64 0), (.int .i64 0), (.float .f64 0), (.string ⟨#[]⟩), (.slice none 0 0)]) 88 rfl Tryz.underlying23 info53 rfl (by decide) (by omega) v130 y129 l2 _ _ _ (fun k_ => ((P0_ k_ ∨ P1_ k_ ∨ P2_ k_) ∨ w.heap.size ≤ k_)) (fun k_ => ((fun k_ => ((P0_ k_ ∨ P1_ k_ ∨ P2_ k_) ∨ w.heap.size ≤ k_))) k_ ∧ some k_ ≠ (v130 : Value).ownBlock) rfl rfl ?aO ?aR (fun _ hk => hk) ?aF ?aB ?aS ?aL ?_; (case aR => exact (by skip; exact Kd.V_F (Kd.V_mono (ok' := (fun k_ => ((fun k_ => ((P0_ k_ ∨ P1_ k_ ∨ P2_ k_) ∨ w.heap.size ≤ k_))) k_ ∧ some k_ ≠ (v130 : Value).ownBlock)) (HO2.out) (fun k_ hk => ⟨hk.1, hk.2⟩)))); (case aB => exact bT); (case aF => exact (fun k_ hk => (.inr (Nat.le_trans (below_size bT) hk)))); (case aO => exact (nT HO131.out)); (case aS => exact (below_size bT)); (case aL => have := LMc6.out; omega); intro v133 w11 ho hb hg hat; rw [← Ny132.out] at ho; replace HO0 := va HO0 hg hat; replace HO1 := va HO1 hg hat; replace HO2 := va HO2 hg hat; replace HB := akk (hb); have HO134 := akk (ho); clear HO131; clear ho hb hg hat))
    go_ret
    exact ⟨_, fT, nT' HO134.out, bT⟩
   ·rw [if_neg c6] at H
    exact absurd H (by simp)
  ·rw [if_neg c5] at H
   exact absurd H (by simp)
 ·rw [if_neg c4] at H
  exact absurd H (by simp)
end Go.Proofs.YtgmolmpfihkolaaGreat.Pj
namespace Go.Proofs.YtgmolmpfihkolaaGreat
open Go.RowKit Go.Proofs.YtgmolmpfihkolaaGreatW.PrintWords Go.Proofs.YtgmolmpfihkolaaGreatW.PrintMore Go.Proofs.YtgmolmpfihkolaaGreat.Pj
set_option linter.unusedVariables false
set_option maxRecDepth 100000
theorem w64n {i : Int} (h : -9223372036854775808 ≤ i) (h2 : i < 9223372036854775808) : wrap64 i = i := by unfold wrap64; omega
def gB : Nat → Nat
 | 0 => 10
 | n + 1 => gB n + 2 * (n + 1) + 6
theorem gB_step (n : Nat) : gB (n + 1) = gB n + 2 * (n + 1) + 6 := rfl
theorem gB_mono : ∀ {n m : Nat}, n ≤ m → gB n ≤ gB m
 | n, 0, h => by
  obtain rfl : n = 0 := by omega
  exact Nat.le_refl _
 | n, m + 1, h => by
  by_cases e : n = m + 1
  ·rw [e]; exact Nat.le_refl _
  ·have := gB_mono (n := n) (m := m) (by omega)
   rw [gB_step]; omega
theorem bulkE_go (n : Nat) (hn : n ≤ 1000) (ihn : ∀ n' : Nat, n' < n → ∀ (l : List PE) (K : Nat), gB n' ≤ K → ∃ r : Int, r22_Bulk.f K l (n' : Int) = some r ∧ 0 ≤ r ∧ r ≤ 2 * n' + 1) (l : List PE) (hl : l.length ≤ n) :
 ∀ (m i : Nat) (x5 : Int), l.length - i = m → i ≤ l.length → (l.length : Int) ≤ x5 → x5 ≤ 2 * n + 1 → ∀ K, gB (n - 1) + 2 * m + 2 ≤ K → ∃ r : Int, r22_Bulk.l0 K l (n : Int) x5 (i : Int) = some r ∧ 0 ≤ r ∧ r ≤ 2 * n + 1 := by
 intro m
 induction m with
 | zero =>
  intro i x5 hm hi h1 h2 K hK
  obtain ⟨K, rfl⟩ : ∃ K', K = K' + 1 + 1 := ⟨K - 2, by omega⟩
  rw [r22_Bulk.l0, if_neg (by omega), r22_Bulk.j1, if_neg (by simp)]
  exact ⟨x5, rfl, by omega, h2⟩
 | succ m ih =>
  intro i x5 hm hi h1 h2 K hK
  obtain ⟨K, rfl⟩ : ∃ K', K = K' + 1 + 1 := ⟨K - 2, by omega⟩
  have hil : i < l.length := by omega
  rw [r22_Bulk.l0, if_pos (by omega), r22_Bulk.j1]
  by_cases c1 : x5 ≤ (n : Int)
  ·rw [if_pos (show decide (x5 ≤ (n : Int)) = true from decide_eq_true c1), if_pos (by omega), if_pos (by omega), rd53 l i hil]
   obtain ⟨s, hs⟩ : ∃ s : Nat, s = l[i].f3.f3.size := ⟨_, rfl⟩
   rw [← hs]
   by_cases c2 : (s : Int) > (n : Int)
   ·rw [if_pos c2, w64n (by omega) (by omega)]
    exact ⟨_, rfl, by omega, by omega⟩
   ·rw [if_neg c2, w64n (i := x5 + (s : Int)) (by omega) (by omega), w64 (by omega)]
    by_cases c3 : x5 + (s : Int) ≤ (n : Int)
    ·rw [if_pos c3, w64n (i := (n : Int) - (x5 + (s : Int))) (by omega) (by omega)]
     obtain ⟨n', hn'⟩ : ∃ n' : Nat, (n : Int) - (x5 + (s : Int)) = (n' : Int) := ⟨((n : Int) - (x5 + (s : Int))).toNat, by omega⟩
     rw [hn']
     have hg := gB_mono (show n' ≤ n - 1 by omega)
     obtain ⟨r, hr, r0, r1⟩ := ihn n' (by omega) l[i].f4 K (by omega)
     rw [hr, Option.bind_some, w64n (i := x5 + (s : Int) + r) (by omega) (by omega)]
     exact ih (i + 1) _ (by omega) (by omega) (by omega) (by omega) K (by omega)
    ·rw [if_neg c3]
     exact ih (i + 1) _ (by omega) (by omega) (by omega) (by omega) K (by omega)
  ·rw [if_neg (show ¬ decide (x5 ≤ (n : Int)) = true by simpa using c1)]
   exact ⟨x5, rfl, by omega, h2⟩
theorem bulkE_f : ∀ (n : Nat), n ≤ 1000 → ∀ (l : List PE) (K : Nat), gB n ≤ K → ∃ r : Int, r22_Bulk.f K l (n : Int) = some r ∧ 0 ≤ r ∧ r ≤ 2 * n + 1 ∧ (r ≤ (n : Int) → l.length ≤ n) := by
 intro n
 induction n using Nat.strongRecOn with
 | ind n ihn =>
  intro hn l K hK
  have h10 : 10 ≤ gB n := gB_mono (Nat.zero_le n)
  obtain ⟨K, rfl⟩ : ∃ K', K = K' + 1 := ⟨K - 1, by omega⟩
  rw [r22_Bulk.f]
  by_cases c : (l.length : Int) > (n : Int)
  ·rw [if_pos c, w64n (by omega) (by omega)]
   exact ⟨_, rfl, by omega, by omega, fun h => by omega⟩
  ·rw [if_neg c]
   cases n with
   | zero =>
    obtain ⟨K, rfl⟩ : ∃ K', K = K' + 1 + 1 := ⟨K - 2, by omega⟩
    rw [r22_Bulk.l0, if_neg (by omega), r22_Bulk.j1, if_neg (by simp)]
    exact ⟨_, rfl, by omega, by omega, fun _ => by omega⟩
   | succ n =>
    have hK2 : gB (n + 1 - 1) + 2 * l.length + 2 ≤ K := by rw [Nat.add_sub_cancel]; rw [gB_step] at hK; omega
    obtain ⟨r, hr, r0, r1⟩ := bulkE_go (n + 1) hn (fun n' hn' l' K' hK' => by
     obtain ⟨r, a1, a2, a3, _⟩ := ihn n' hn' (by omega) l' K' hK'
     exact ⟨r, a1, a2, a3⟩) l (by omega) l.length 0 _ (by omega) (Nat.zero_le _) (Int.le_refl _) (by omega) K hK2
    exact ⟨r, hr, r0, r1, fun _ => by omega⟩
theorem bulkR_one (t : Tup) (i : Nat) (hi : i < t.length) (F : Nat)
 (H : ∀ (x5 : Int) (K : Nat), F ≤ K → 0 ≤ x5 → x5 ≤ 500 → ∃ r : Int, r05_Bulk.l0 K t 200 x5 ((i + 1 : Nat) : Int) = some r ∧ (r ≤ 200 → ∀ k, i + 1 ≤ k → (t.getD k []).length ≤ 200)) (ht : t.length ≤ 1000) (hr : (t.getD i []).length ≤ 200) :
 ∀ (m j : Nat) (x5 : Int), (t.getD i []).length - j = m → j ≤ (t.getD i []).length → 0 ≤ x5 → x5 ≤ 500 → ∀ K, F + m + 1 ≤ K → ∃ r : Int, r05_Bulk.l1 K t 200 x5 (i : Int) (j : Int) = some r ∧ (r ≤ 200 → ∀ k, i ≤ k → (t.getD k []).length ≤ 200) := by
 intro m
 have ext : ∀ r : Int, (r ≤ 200 → ∀ k, i + 1 ≤ k → (t.getD k []).length ≤ 200) → (r ≤ 200 → ∀ k, i ≤ k → (t.getD k []).length ≤ 200) := by
  intro r h h1 k hk
  by_cases e : k = i
  ·rw [e]; exact hr
  ·exact h h1 k (by omega)
 induction m with
 | zero =>
  intro j x5 hm hj h0 h5 K hK
  obtain ⟨K, rfl⟩ : ∃ K', K = K' + 1 := ⟨K - 1, by omega⟩
  rw [r05_Bulk.l1, if_pos (by omega), if_pos (by omega), rd5, if_neg (by omega), w64 (by omega)]
  obtain ⟨r, a1, a2⟩ := H x5 K (by omega) h0 h5
  exact ⟨r, a1, ext r a2⟩
 | succ m ih =>
  intro j x5 hm hj h0 h5 K hK
  obtain ⟨K, rfl⟩ : ∃ K', K = K' + 1 := ⟨K - 1, by omega⟩
  have hjl : j < (t.getD i []).length := by omega
  rw [r05_Bulk.l1, if_pos (by omega), if_pos (by omega), rd5, if_pos (by omega)]
  by_cases c1 : x5 > 200
  ·rw [if_pos c1, w64n (by omega) (by omega)]
   exact ⟨_, rfl, fun h => by omega⟩
  ·rw [if_neg c1, if_pos (by omega), rd39 _ j hjl]
   obtain ⟨s, hs⟩ : ∃ s : Nat, s = ((t.getD i [])[j]).f3.size := ⟨_, rfl⟩
   rw [← hs]
   by_cases c2 : (s : Int) > 200
   ·rw [if_pos c2, w64n (by omega) (by omega)]
    exact ⟨_, rfl, fun h => by omega⟩
   ·rw [if_neg c2, w64n (i := x5 + 1) (by omega) (by omega), w64n (i := x5 + 1 + (s : Int)) (by omega) (by omega), w64 (by omega)]
    exact ih (j + 1) _ (by omega) (by omega) (by omega) (by omega) K (by omega)
theorem bulkR_go (t : Tup) (ht : t.length ≤ 1000) : ∀ (m i : Nat), t.length - i = m → i ≤ t.length → ∀ (x5 : Int) (K : Nat), m * 300 + 1 ≤ K → 0 ≤ x5 → x5 ≤ 500 → ∃ r : Int, r05_Bulk.l0 K t 200 x5 (i : Int) = some r ∧ (r ≤ 200 → ∀ k, i ≤ k → (t.getD k []).length ≤ 200) := by
 intro m
 induction m with
 | zero =>
  intro i hm hi x5 K hK h0 h5
  obtain ⟨K, rfl⟩ : ∃ K', K = K' + 1 := ⟨K - 1, by omega⟩
  rw [r05_Bulk.l0, if_neg (by omega)]
  exact ⟨x5, rfl, fun _ k hk => by rw [getD_no _ _ _ (by omega)]; simp⟩
 | succ m ih =>
  intro i hm hi x5 K hK h0 h5
  obtain ⟨K, rfl⟩ : ∃ K', K = K' + 1 := ⟨K - 1, by omega⟩
  rw [r05_Bulk.l0, if_pos (by omega), if_pos (by omega), rd5]
  by_cases c : ((t.getD i []).length : Int) > 200
  ·rw [if_pos c, w64n (by omega) (by omega)]
   exact ⟨_, rfl, fun h => by omega⟩
  ·rw [if_neg c]
   exact bulkR_one t i (by omega) (m * 300 + 1) (fun x5 K hK h0 h5 => ih (i + 1) (by omega) (by omega) x5 K hK h0 h5) ht (by omega) (t.getD i []).length 0 x5 (by omega) (Nat.zero_le _) h0 h5 K (by omega)
theorem bulkR_f (t : Tup) (ht : t.length ≤ 13) (K : Nat) (hK : 4000 ≤ K) : ∃ r : Int, r05_Bulk.f K t 200 = some r ∧ (r ≤ 200 → okTup t) := by
 unfold r05_Bulk.f
 rw [if_neg (by omega)]
 obtain ⟨r, a1, a2⟩ := bulkR_go t (by omega) t.length 0 (by omega) (Nat.zero_le _) (t.length : Int) K (by omega) (by omega) (by omega)
 refine ⟨r, a1, fun h => ⟨by omega, fun row hrow => ?_⟩⟩
 obtain ⟨k, hk, e⟩ := List.mem_iff_getElem.1 hrow
 have := a2 h k (Nat.zero_le _)
 rw [getD_at _ _ _ hk, e] at this
 omega
theorem great_go (ts : List Tup) (ht : ts.length ≤ 1000) : ∀ (m i : Nat), ts.length - i = m → i ≤ ts.length → ∀ K, m + 4001 ≤ K → ∃ g : Bool, a27_Great.l0 K ts (ts.length : Int) (i : Int) = some g ∧ (g = false → ∀ k, i ≤ k → okTup (ts.getD k [])) := by
 intro m
 induction m with
 | zero =>
  intro i hm hi K hK
  obtain ⟨K, rfl⟩ : ∃ K', K = K' + 1 := ⟨K - 1, by omega⟩
  rw [a27_Great.l0, if_neg (by omega)]
  exact ⟨false, rfl, fun _ k hk => by rw [getD_no _ _ _ (by omega)]; simp [okTup]⟩
 | succ m ih =>
  intro i hm hi K hK
  obtain ⟨K, rfl⟩ : ∃ K', K = K' + 1 := ⟨K - 1, by omega⟩
  rw [a27_Great.l0, if_pos (by omega), if_pos (by omega), if_pos (by omega), rd6]
  by_cases c : ((ts.getD i []).length : Int) > 13
  ·rw [if_pos c]
   exact ⟨true, rfl, fun h => by cases h⟩
  ·rw [if_neg c]
   obtain ⟨r, a1, a2⟩ := bulkR_f (ts.getD i []) (by omega) K (by omega)
   rw [a1, Option.bind_some]
   by_cases c2 : r > 200
   ·rw [if_pos c2]
    exact ⟨true, rfl, fun h => by cases h⟩
   ·rw [if_neg c2, w64 (by omega)]
    obtain ⟨g, b1, b2⟩ := ih (i + 1) (by omega) (by omega) K (by omega)
    refine ⟨g, b1, fun h k hk => ?_⟩
    by_cases e : k = i
    ·rw [e]; exact a2 (by omega)
    ·exact b2 h k (by omega)
theorem great_f (a b : List Tup) (l : List PE) (K : Nat) (hK : gB 200 + 5000 ≤ K) : ∃ g : Bool, a27_Great.f K a b l = some g ∧ (g = false → a.length ≤ 30 ∧ b.length ≤ 30 ∧ l.length ≤ 200 ∧ (∀ t ∈ a, okTup t) ∧ ∀ t ∈ b, okTup t) := by
 obtain ⟨K, rfl⟩ : ∃ K', K = K' + 1 := ⟨K - 1, by omega⟩
 have tr : a27_Great.j0 (K + 1) a b true = some true := by rw [a27_Great.j0, if_pos rfl]
 unfold a27_Great.f
 by_cases c1 : (a.length : Int) > 30
 ·rw [if_pos c1, tr]; exact ⟨true, rfl, fun h => by cases h⟩
 ·rw [if_neg c1]
  by_cases c2 : (b.length : Int) > 30
  ·rw [if_pos c2, tr]; exact ⟨true, rfl, fun h => by cases h⟩
  ·rw [if_neg c2]
   obtain ⟨r, a1, _, _, a2⟩ := bulkE_f 200 (by omega) l (K + 1) (by omega)
   have a1 : r22_Bulk.f (K + 1) l 200 = some r := a1
   rw [a1, Option.bind_some]
   by_cases c3 : r > 200
   ·rw [show decide (r > 200) = true from decide_eq_true c3, tr]; exact ⟨true, rfl, fun h => by cases h⟩
   ·rw [show decide (r > 200) = false from decide_eq_false c3, a27_Great.j0, if_neg (by simp), Option.bind_some, if_pos (by simp; omega), Option.bind_some, if_pos (by simp; omega), Option.bind_some, List.nil_append]
    obtain ⟨g, b1, b2⟩ := great_go (a ++ b) (by rw [List.length_append]; omega) (a ++ b).length 0 (by omega) (Nat.zero_le _) K (by rw [List.length_append]; omega)
    refine ⟨g, b1, fun h => ⟨by omega, by omega, a2 (by omega), fun t ht => ?_, fun t ht => ?_⟩⟩
    ·obtain ⟨k, hk, e⟩ := List.mem_iff_getElem.1 (List.mem_append_left b ht)
     have := b2 h k (Nat.zero_le _)
     rw [getD_at _ _ _ hk, e] at this
     exact this
    ·obtain ⟨k, hk, e⟩ := List.mem_iff_getElem.1 (List.mem_append_right a ht)
     have := b2 h k (Nat.zero_le _)
     rw [getD_at _ _ _ hk, e] at this
     exact this
theorem exact_go (r : List PV) (hr : wfR r = true) (hn : r.length ≤ 1000) : ∀ (m i : Nat), r.length - i = m → i ≤ r.length → ∀ K, m + 1 ≤ K → r05_Exact.l0 K r r (i : Int) = some true := by
 intro m
 induction m with
 | zero =>
  intro i hm hi K hK
  obtain ⟨K, rfl⟩ : ∃ K', K = K' + 1 := ⟨K - 1, by omega⟩
  rw [r05_Exact.l0, if_neg (by omega)]
 | succ m ih =>
  intro i hm hi K hK
  obtain ⟨K, rfl⟩ : ∃ K', K = K' + 1 := ⟨K - 1, by omega⟩
  have hil : i < r.length := by omega
  have hv : wfV r[i] = true := List.all_eq_true.1 hr _ (List.getElem_mem hil)
  have he : r04_Exact.f r[i].f0 r[i].f1 r[i].f2 r[i].f3 r[i].f0 r[i].f1 r[i].f2 r[i].f3 = some true := by
   unfold r04_Exact.f
   show exactF r[i] r[i] = _
   unfold exactF
   rw [hv, decide_eq_true (Alike.refl _)]; rfl
  rw [r05_Exact.l0, if_pos (by omega), if_pos (by omega), if_pos (by omega), rd39 r i hil, he, Option.bind_some, if_pos rfl, w64 (by omega)]
  exact ih (i + 1) (by omega) (by omega) K (by omega)
theorem lists_go (t : Tup) (hw : wfRs t = true) (ht : okTup t) : ∀ (m i : Nat), t.length - i = m → i ≤ t.length → ∀ K, m + 1002 ≤ K → r05_Lists.l0 K t t (i : Int) = some true := by
 intro m
 induction m with
 | zero =>
  intro i hm hi K hK
  obtain ⟨K, rfl⟩ : ∃ K', K = K' + 1 := ⟨K - 1, by omega⟩
  rw [r05_Lists.l0, if_neg (by omega)]
 | succ m ih =>
  intro i hm hi K hK
  obtain ⟨K, rfl⟩ : ∃ K', K = K' + 1 := ⟨K - 1, by omega⟩
  have hil : i < t.length := by omega
  have h1 := ht.1
  have h2 := ht.2 _ (List.getElem_mem hil)
  have he : r05_Exact.f K t[i] t[i] = some true := by
   unfold r05_Exact.f
   rw [if_pos rfl]
   exact exact_go t[i] (List.all_eq_true.1 hw _ (List.getElem_mem hil)) h2 t[i].length 0 (by omega) (Nat.zero_le _) K (by omega)
  rw [r05_Lists.l0, if_pos (by omega), if_pos (by omega), if_pos (by omega), rd5, getD_at _ _ _ hil, he, Option.bind_some, if_pos rfl, w64 (by omega)]
  exact ih (i + 1) (by omega) (by omega) K (by omega)
theorem same_go2 (x : List Tup) (hx : ∀ t ∈ x, wfRs t = true ∧ okTup t) (hn : x.length ≤ 1000000) : ∀ (m i : Nat), x.length - i = m → i ≤ x.length → ∀ K, m + 3000 ≤ K → r26_Same.l0 K x x (i : Int) = some true := by
 intro m
 induction m with
 | zero =>
  intro i hm hi K hK
  obtain ⟨K, rfl⟩ : ∃ K', K = K' + 1 := ⟨K - 1, by omega⟩
  rw [r26_Same.l0, if_neg (by omega)]
 | succ m ih =>
  intro i hm hi K hK
  obtain ⟨K, rfl⟩ : ∃ K', K = K' + 1 := ⟨K - 1, by omega⟩
  have hil : i < x.length := by omega
  have h1 := hx _ (List.getElem_mem hil)
  have h3 := h1.2.1
  have he : r05_Lists.f K x[i] x[i] = some true := by
   unfold r05_Lists.f
   rw [if_pos rfl]
   exact lists_go x[i] h1.1 h1.2 x[i].length 0 (by omega) (Nat.zero_le _) K (by omega)
  rw [r26_Same.l0, if_pos (by omega), if_pos (by omega), if_pos (by omega), rd6, getD_at _ _ _ hil, he, Option.bind_some, if_pos rfl, w64 (by omega)]
  exact ih (i + 1) (by omega) (by omega) K (by omega)
theorem same_f2 (x : List Tup) (hx : ∀ t ∈ x, wfRs t = true ∧ okTup t) (hn : x.length ≤ 10000) (K : Nat) (hK : 20000 ≤ K) : r26_Same.f K x x = some true := by
 unfold r26_Same.f
 rw [if_pos rfl]
 exact same_go2 x hx (by omega) x.length 0 (by omega) (Nat.zero_le _) K (by omega)
theorem toldGo_ok (a b : List Tup) (l : List PE) (ha : okTups a) (hb : okTups b) : ∀ (p : List PP) (out : List Tup), (∀ t ∈ out, wfRs t = true ∧ okTup t) → ∀ t ∈ (toldGo a b l p out).1, wfRs t = true ∧ okTup t
 | [], out, ho => by rw [toldGo]; exact ho
 | x :: p, out, ho => by
  rw [toldGo]
  split
  ·intro t ht; cases ht
  ·refine toldGo_ok a b l ha hb p _ ?_
   split
   ·intro t ht
    rcases List.mem_append.1 ht with ht | ht
    ·exact ho t ht
    ·rw [List.mem_singleton.1 ht]
     have wa := ha.get x.f0.toNat
     have wb := hb.get x.f1.toNat
     exact ⟨unionP_wf wa.1 wb.1, unionP_ok wa.2 wb.2⟩
   ·exact ho
end Go.Proofs.YtgmolmpfihkolaaGreat
namespace Go.Proofs.YtgmolmpfihkolaaGreat
open Go.RowKit Go.Proofs.YtgmolmpfihkolaaGreat.Pj Go.Proofs.YtgmolmpfihkolaaGreatW.PrintWords
set_option linter.unusedVariables false
set_option maxRecDepth 100000
theorem C_block {α : Type} {d : Kd α} {W : World} {g : Nat} {cs : Array Value} {e : TypeId} {xs : List α} {inner : List Value} (hb : W.heap[g]? = some (.cells cs e (0, 0))) (hi : cs.toList = inner) (hr : Reps (d.K W) d.sz xs inner) (hm : xs.length ≤ 9223372036854775807) : d.C W (some ⟨g, 0, none⟩) xs.length xs := by
 refine ⟨rfl, hm, fun _ => ⟨⟨g, 0, none⟩, rfl, fun j p hj => ⟨_, d.K_len (hr.2 j p hj), hr.2 j p hj, fun i u hu => ?_⟩⟩⟩
 rw [List.getElem?_take] at hu
 split at hu
 ·rw [List.getElem?_drop] at hu
  rw [add_plain, blk_cell hb, ← Array.getElem?_toList, hi]
  exact hu
 ·cases hu
theorem run_make2 (W : World) : (Instr.makeSlice 22 (.int .i64 2) (.int .i64 2)).run Tryz.prog W = .ok (.slice (some ⟨W.heap.size, 0, none⟩) 2 2) (W.alloc (.cells #[.slice none 0 0, .slice none 0 0] 29)) := by
 have h := print_make_of 22 29 _ 24 Tryz.underlying22 info29 rfl (by decide) 2 (by decide) W
 have e : madeCells #[Value.slice none 0 0] 2 = #[.slice none 0 0, .slice none 0 0] := by kernel_rfl
 rw [e] at h
 exact h
attribute [local go_sem] run_make2 run_f64bits run_f64from run_store_float
theorem blk_newAt (W : World) (o : Obj) {g : Nat} (h : g = W.heap.size) : (W.alloc o).heap[g]? = some o := by rw [h]; exact blk_new W o
theorem Reps.c1 {α : Type} {R : α → List Value → Prop} {ps : List α} {cs : List Value} {p : α} {v : Value} (hp : R p [v]) (h : Reps R 1 ps cs) : Reps R 1 (p :: ps) (v :: cs) := Reps.front hp rfl h rfl
abbrev KT : Kd (List (List PV)) := Kd.slice 29 (Kd.slice 39 k39)
def tupT (rel : Int) (v : PV) : List (List PV) := if rel = 0 then [[v], []] else [[], [v]]
theorem tuple_any (rel : Int) (hr : rel = 0 ∨ rel = 1) (a b : Int) (c : Nat) (d : ByteArray) (w : World) : Calls Tryz.prog 31 #[.int .i64 rel, .agg #[.int .i64 a, .int .i64 b, .float .f64 c, .string d]] w fun e w' => ∃ g, e = .returned (.slice (some ⟨g, 0, none⟩) 2 2) ∧ KT.K w' (tupT rel ⟨a, b, c, d⟩) [.slice (some ⟨g, 0, none⟩) 2 2] ∧ Below w.heap.size w w' := by
 rcases hr with rfl | rfl
 ·go_enter Tryz.func31, Tryz.ntmps31
  go_wp2
  go_ret
  refine ⟨_, rfl, ⟨_, _, rfl, Nat.le_refl _, ?_⟩, ?_⟩
  ·refine C_block (d := Kd.slice 39 k39) (xs := [[(⟨a, b, c, d⟩ : PV)], []]) (blk_alloc (blk_newAt _ _ (by simp)) _) rfl (Reps.c1 ⟨_, _, rfl, Nat.le_refl _, ?_⟩ (Reps.c1 ⟨_, _, rfl, Nat.le_refl _, Kd.C_nil _ _⟩ (Reps.none _ _))) (by simp)
   exact C_block (d := k39) (xs := [(⟨a, b, c, d⟩ : PV)]) (blk_newAt _ _ (by simp)) rfl (Reps.c4 (k39_mk _ (⟨a, b, c, d⟩ : PV)) (Reps.none _ _)) (by simp)
  ·exact below_alloc (below_alloc (below_alloc (Below.refl _ _) _) _) _
 ·go_enter Tryz.func31, Tryz.ntmps31
  go_wp2
  go_ret
  refine ⟨_, rfl, ⟨_, _, rfl, Nat.le_refl _, ?_⟩, ?_⟩
  ·refine C_block (d := Kd.slice 39 k39) (xs := [[], [(⟨a, b, c, d⟩ : PV)]]) (blk_alloc (blk_newAt _ _ (by simp)) _) rfl (Reps.c1 ⟨_, _, rfl, Nat.le_refl _, Kd.C_nil _ _⟩ (Reps.c1 ⟨_, _, rfl, Nat.le_refl _, ?_⟩ (Reps.none _ _))) (by simp)
   exact C_block (d := k39) (xs := [(⟨a, b, c, d⟩ : PV)]) (blk_newAt _ _ (by simp)) rfl (Reps.c4 (k39_mk _ (⟨a, b, c, d⟩ : PV)) (Reps.none _ _)) (by simp)
  ·exact below_alloc (below_alloc (below_alloc (Below.refl _ _) _) _) _
theorem f_exp (c : Nat) (w : World) : Calls Tryz.prog 32 #[.float .f64 c] w fun e w' => e = .returned (.agg #[.int .i64 3, .int .i64 0, .float .f64 c, .string ⟨#[]⟩]) ∧ Below w.heap.size w w' := by
 have HB := hdq ((Boxes.nil w).alloc (by simp) Val.null 39)
 go_enter Tryz.func32, Tryz.ntmps32
 go_wp2
 exact ret_val Tryz.results32 rfl rfl (LiesV.new w (⟨3, 0, c, ⟨#[]⟩⟩ : Val) _) ⟨rfl, (Below.refl _ w).alloc (Nat.le_refl _) _⟩
theorem NaN_any (w : World) : Calls Tryz.prog 34 #[] w fun e w' => e = .returned (.float .f64 9221120237041090561) ∧ w = w' := by
 go_enter Tryz.func34, Tryz.ntmps34
 go_wp2
 go_ret
 exact ⟨rfl, rfl⟩
theorem Copysign_zero (w : World) : Calls Tryz.prog 33 #[.float .f64 0, .float .f64 13830554455654793216] w fun e w' => e = .returned (.float .f64 9223372036854775808) ∧ w = w' := by
 go_enter Tryz.func33, Tryz.ntmps33
 go_wp2
 go_ret
 exact ⟨rfl, rfl⟩
end Go.Proofs.YtgmolmpfihkolaaGreat
namespace Go.Proofs.YtgmolmpfihkolaaGreat
open Go.RowKit Go.Proofs.YtgmolmpfihkolaaGreat.Pj
set_option maxRecDepth 100000
abbrev eV : ByteArray := ⟨#[]⟩
abbrev v1 : PV := ⟨2, 1, 0, eV⟩
abbrev v2 : PV := ⟨2, 2, 0, eV⟩
abbrev v3 : PV := ⟨2, 3, 0, eV⟩
abbrev vN : PV := ⟨0, 0, 0, eV⟩
abbrev vP : PV := ⟨3, 0, 0, eV⟩
abbrev vM : PV := ⟨3, 0, 9223372036854775808, eV⟩
abbrev vX : PV := ⟨3, 0, 9221120237041090561, eV⟩
abbrev TA : List (List (List PV)) := [tupT 0 v1, tupT 0 v2, tupT 0 v2, tupT 0 vN, tupT 0 vM, tupT 0 vX]
abbrev TB : List (List (List PV)) := [tupT 1 v2, tupT 1 v3, tupT 1 vN, tupT 1 vP, tupT 1 vX]
abbrev LA : List PE := [⟨1, 0, 0, vN, []⟩]
abbrev LB : List PE := [⟨1, 1, 0, vN, []⟩]
abbrev TX : List (List (List PV)) := [[[v2], [v2]], [[v2], [v2]], [[vM], [vP]], [[vX], [vX]]]
theorem little : keyedR TA TB LA LB [] = (TX, 0) := by kernel_rfl
end Go.Proofs.YtgmolmpfihkolaaGreat
