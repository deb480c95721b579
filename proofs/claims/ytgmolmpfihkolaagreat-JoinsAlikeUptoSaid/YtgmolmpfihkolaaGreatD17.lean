/- Part of the proof. -/
import Derived.Test.YtgmolmpfihkolaaGreatD16
namespace Go.Proofs.YtgmolmpfihkolaaGreat
open Go.RowKit
set_option linter.unusedVariables false
set_option maxRecDepth 100000
theorem swpE_app (P A B : List E2) (x y : E2) : swpE (P ++ x :: (A ++ y :: B)) P.length (P.length + 1 + A.length) = P ++ y :: (A ++ x :: B) := by
 have e1 : (P ++ x :: (A ++ y :: B))[P.length]! = x := by
  rw [List.getElem!_eq_getElem?_getD, List.getElem?_append_right (Nat.le_refl _)]; simp
 have e2 : (P ++ x :: (A ++ y :: B))[P.length + 1 + A.length]! = y := by
  rw [List.getElem!_eq_getElem?_getD, List.getElem?_append_right (by omega), show P.length + 1 + A.length - P.length = A.length + 1 by omega, List.getElem?_cons_succ, List.getElem?_append_right (Nat.le_refl _)]; simp
 unfold swpE
 rw [e1, e2, List.set_append_right _ _ (Nat.le_refl _), Nat.sub_self, List.set_cons_zero, List.set_append_right _ _ (by omega), show P.length + 1 + A.length - P.length = A.length + 1 by omega, List.set_cons_succ, List.set_append_right _ _ (Nat.le_refl _), Nat.sub_self, List.set_cons_zero]
theorem swapR_front (d : List E2) (a b : Nat) : ∀ n, swapR d a b (n + 1) = swapR (swpE d a b) (a + 1) (b + 1) n
 | 0 => rfl
 | n + 1 => by
  rw [swapR, swapR_front d a b n, swapR, show a + (n + 1) = a + 1 + n by omega, show b + (n + 1) = b + 1 + n by omega]
theorem swapR_app : ∀ (X Y P M S : List E2), X.length = Y.length → swapR (P ++ (X ++ (M ++ (Y ++ S)))) P.length (P.length + X.length + M.length) X.length = P ++ (Y ++ (M ++ (X ++ S)))
 | [], [], P, M, S, _ => rfl
 | [], _ :: _, _, _, _, h => by simp at h
 | _ :: _, [], _, _, _, h => by simp at h
 | x :: X, y :: Y, P, M, S, h => by
  have h' : X.length = Y.length := by simpa using h
  rw [List.length_cons, swapR_front]
  have e := swpE_app P (X ++ M) (Y ++ S) x y
  have e0 : P ++ ((x :: X) ++ (M ++ ((y :: Y) ++ S))) = P ++ x :: ((X ++ M) ++ y :: (Y ++ S)) := by simp [List.append_assoc]
  rw [e0, show P.length + (X.length + 1) + M.length = P.length + 1 + (X ++ M).length by rw [List.length_append]; omega, e]
  have ih := swapR_app X Y (P ++ [y]) (M ++ [x]) S h'
  have e1 : P ++ y :: ((X ++ M) ++ x :: (Y ++ S)) = (P ++ [y]) ++ (X ++ ((M ++ [x]) ++ (Y ++ S))) := by simp [List.append_assoc]
  rw [e1, show P.length + 1 = (P ++ [y]).length by simp, show (P ++ [y]).length + (X ++ M).length + 1 = (P ++ [y]).length + X.length + (M ++ [x]).length by simp only [List.length_append, List.length_cons, List.length_nil]; omega, ih]
  simp [List.append_assoc]
theorem wr_i64 {x : Int} (y : Int) (h : x = y) (h0 : -1099511627776 ≤ y) (h1 : y < 2199023255552) : wrap64 x = y := by
 subst h; unfold wrap64; omega
theorem wr_add {a b c : Nat} (h : a + b = c) (hc : c < 2199023255552) : wrap64 ((a : Int) + (b : Int)) = (c : Int) := wr_i64 _ (by omega) (by omega) (by omega)
theorem wr_sub {a b c : Nat} (h : c + b = a) (hc : a < 2199023255552) : wrap64 ((a : Int) - (b : Int)) = (c : Int) := wr_i64 _ (by omega) (by omega) (by omega)
def Rot (P L R S : List E2) (i j : Nat) (d : List E2) : Prop :=
 ∃ A L' R' B : List E2, L'.length = i ∧ R'.length = j ∧ A.length + i = L.length ∧ A ++ (R' ++ (L' ++ B)) = R ++ L ∧ d = P ++ (A ++ (L' ++ (R' ++ (B ++ S))))
theorem Rot.start (P L R S : List E2) : Rot P L R S L.length R.length (P ++ (L ++ (R ++ S))) := ⟨[], L, R, [], rfl, rfl, by simp, by simp, by simp⟩
theorem Rot.sizes {P L R S : List E2} {i j : Nat} {d : List E2} (h : Rot P L R S i j d) : i ≤ L.length ∧ j ≤ R.length ∧ d.length = P.length + L.length + R.length + S.length := by
 obtain ⟨A, L', R', B, hi, hj, hA, hE, rfl⟩ := h
 have := congrArg List.length hE
 simp only [List.length_append] at this ⊢
 omega
theorem Rot.less {P L R S : List E2} {i j x y : Nat} {d : List E2} (h : Rot P L R S i j d) (hc : i < j) (hx : x + i = P.length + L.length) (hy : y + i = P.length + L.length + j) : Rot P L R S i (j - i) (swapR d x y i) := by
 obtain ⟨A, L', R', B, hi, hj, hA, hE, rfl⟩ := h
 obtain ⟨R1, R2, rfl, h1, h2⟩ : ∃ R1 R2, R' = R1 ++ R2 ∧ R1.length = j - i ∧ R2.length = i := ⟨R'.take (j - i), R'.drop (j - i), (List.take_append_drop _ _).symm, by rw [List.length_take]; omega, by rw [List.length_drop]; omega⟩
 refine ⟨A, R2, R1, L' ++ B, h2, h1, hA, by rw [← hE]; simp only [List.append_assoc], ?_⟩
 have e := swapR_app L' R2 (P ++ A) R1 (B ++ S) (by omega)
 have e0 : P ++ (A ++ (L' ++ ((R1 ++ R2) ++ (B ++ S)))) = (P ++ A) ++ (L' ++ (R1 ++ (R2 ++ (B ++ S)))) := by simp only [List.append_assoc]
 have ex : x = (P ++ A).length := by rw [List.length_append]; omega
 have ey : y = (P ++ A).length + L'.length + R1.length := by rw [List.length_append]; omega
 rw [e0, ex, ey, ← hi, e]
 simp only [List.append_assoc]
theorem Rot.more {P L R S : List E2} {i j x y : Nat} {d : List E2} (h : Rot P L R S i j d) (hc : j < i) (hx : x + i = P.length + L.length) (hy : y = P.length + L.length) : Rot P L R S (i - j) j (swapR d x y j) := by
 obtain ⟨A, L', R', B, hi, hj, hA, hE, rfl⟩ := h
 obtain ⟨L1, L2, rfl, h1, h2⟩ : ∃ L1 L2, L' = L1 ++ L2 ∧ L1.length = j ∧ L2.length = i - j := ⟨L'.take j, L'.drop j, (List.take_append_drop _ _).symm, by rw [List.length_take]; omega, by rw [List.length_drop]; omega⟩
 have hR := congrArg List.length hE
 simp only [List.length_append] at hR
 refine ⟨A ++ R', L2, L1, B, h2, h1, by rw [List.length_append]; omega, by rw [← hE]; simp only [List.append_assoc], ?_⟩
 have e := swapR_app L1 R' (P ++ A) L2 (B ++ S) (by omega)
 have e0 : P ++ (A ++ ((L1 ++ L2) ++ (R' ++ (B ++ S)))) = (P ++ A) ++ (L1 ++ (L2 ++ (R' ++ (B ++ S)))) := by simp only [List.append_assoc]
 rw [List.length_append] at hi
 have ex : x = (P ++ A).length := by rw [List.length_append]; omega
 have ey : y = (P ++ A).length + L1.length + L2.length := by rw [List.length_append]; omega
 rw [e0, ex, ey, ← h1, e]
 simp only [List.append_assoc]
theorem Rot.same {P L R S : List E2} {i x y : Nat} {d : List E2} (h : Rot P L R S i i d) (hx : x + i = P.length + L.length) (hy : y = P.length + L.length) : swapR d x y i = P ++ (R ++ (L ++ S)) := by
 obtain ⟨A, L', R', B, hi, hj, hA, hE, rfl⟩ := h
 have e := swapR_app L' R' (P ++ A) [] (B ++ S) (by omega)
 have e0 : P ++ (A ++ (L' ++ (R' ++ (B ++ S)))) = (P ++ A) ++ (L' ++ ([] ++ (R' ++ (B ++ S)))) := by simp only [List.append_assoc, List.nil_append]
 have ex : x = (P ++ A).length := by rw [List.length_append]; omega
 have ey : y = (P ++ A).length + L'.length + ([] : List E2).length := by rw [List.length_append]; simp; omega
 rw [e0, ex, ey, ← hi, e]
 have e1 : (P ++ A) ++ (R' ++ ([] ++ (L' ++ (B ++ S)))) = P ++ ((A ++ (R' ++ (L' ++ B))) ++ S) := by simp only [List.append_assoc, List.nil_append]
 rw [e1, hE]
 simp only [List.append_assoc]
set_option maxHeartbeats 4000000 in
theorem rotate_any (F : Value) (blk tag sz cap : Nat) (P L R S : List E2) (w0 w : World) (hS : SortW w0 blk tag sz (P ++ (L ++ (R ++ S))) w) (hL : 0 < L.length) (hR : 0 < R.length) (len a m b : Nat) (hlen : (P ++ (L ++ (R ++ S))).length = len) (ha : P.length = a) (hm : a + L.length = m) (hb : m + R.length = b) (hl : len < 1099511627776) :
 Calls Tryz.prog 125 #[.slice (some ⟨blk, 0, none⟩) len cap, .int .i64 a, .int .i64 m, .int .i64 b, F] w fun e w' => e = .returned (.tuple #[]) ∧ SortW w0 blk tag sz (P ++ (R ++ (L ++ S))) w' := by
 obtain ⟨i0, hi0⟩ : ∃ i, i = L.length := ⟨_, rfl⟩
 obtain ⟨j0, hj0⟩ : ∃ j, j = R.length := ⟨_, rfl⟩
 have hlen' : P.length + L.length + R.length + S.length = len := by rw [← hlen]; simp only [List.length_append]; omega
 have SZ := hdq (show ∀ (i j : Nat) (d : List E2), Rot P L R S i j d → i + a ≤ m ∧ j + m ≤ b ∧ b ≤ len ∧ d.length = len from fun i j d h => by have := h.sizes; omega)
 have s1 : wrap64 ((m : Int) - (a : Int)) = (i0 : Int) := wr_sub (by omega) (by omega)
 have s2 : wrap64 ((b : Int) - (m : Int)) = (j0 : Int) := wr_sub (by omega) (by omega)
 have HMB : Hid (b ≤ len ∧ P.length + L.length = m) := ⟨by omega, by omega⟩
 have HL := hdq hl
 have SW : Hid (∀ (x y n : Nat) (d : List E2) (W : World), SortW w0 blk tag sz d W → d.length = len → x + n ≤ y → y + n ≤ len → Calls Tryz.prog 140 #[.slice (some ⟨blk, 0, none⟩) len cap, .int .i64 x, .int .i64 y, .int .i64 n, F] W fun e w' => e = .returned (.tuple #[]) ∧ SortW w0 blk tag sz (swapR d x y n) w') :=
  hdq (fun x y n d W h hd h1 h2 => by subst hd; exact swapRange_any F blk tag sz cap x y n d w0 W h h1 h2 hl)
 have ST : Hid (∃ d, Rot P L R S i0 j0 d ∧ SortW w0 blk tag sz d w) := ⟨_, by rw [hi0, hj0]; exact Rot.start P L R S, hS⟩
 have HP : Hid (0 < i0 ∧ 0 < j0) := ⟨by omega, by omega⟩
 clear hS hlen hlen' ha hm hb hl hi0 hj0 hL hR
 go_enter Tryz.func125, Tryz.ntmps125
 go_wp2
 go_loopw [10, 11] (fun vi vj wr => ∃ i j : Nat, vi = .int .i64 i ∧ vj = .int .i64 j ∧ Hid (0 < i ∧ 0 < j) ∧ Hid (∃ d, Rot P L R S i j d ∧ SortW w0 blk tag sz d wr)) (fun vi vj _ => (intOf vi).toNat + (intOf vj).toNat)
 case atStart => exact ⟨i0, j0, (by first | rfl | rw [s1]), (by first | rfl | rw [s2]), HP, ST⟩
 case round =>
  obtain ⟨i, j, rfl, rfl, HIJ, HW⟩ := hrel
  clear ST HP s1 s2
  obtain ⟨d, hd, hW⟩ := HW.out
  obtain ⟨z1, z2, z3, hlen⟩ := SZ.out i j d hd
  obtain ⟨_, hm⟩ := HMB.out
  have hij := HIJ.out
  have hl := HL.out
  obtain ⟨x, hx⟩ : ∃ x, x + i = m := ⟨m - i, by omega⟩
  have hm0 : m < 2199023255552 := by omega
  rcases Nat.lt_trichotomy i j with hc | hc | hc
  ·
   obtain ⟨y, hy⟩ : ∃ y, y + i = m + j := ⟨m + j - i, by omega⟩
   obtain ⟨j', hj'⟩ : ∃ j', j' = j - i := ⟨_, rfl⟩
   have hj2 : j' + i = j := by omega
   obtain ⟨z, hz⟩ : ∃ z, z = m + j := ⟨_, rfl⟩
   have hz0 : z < 2199023255552 := by omega
   have hyz : y + i = z := by omega
   have hj0 : j < 2199023255552 := by omega
   have t1 : ((i : Int) != (j : Int)) = true := by simp; omega
   have t2 : ¬ (j : Int) < (i : Int) := by omega
   have t3 : ¬ j < i := by omega
   have NX := hdq (hd.less (x := x) (y := y) hc (by omega) (by omega))
   rw [← hj'] at NX
   have C := hdq (SW.out x y i _ _ hW hlen (by omega) (by omega))
   have Z : Hid (0 < i ∧ 0 < j' ∧ i + j' < i + j) := ⟨hij.1, by omega, by omega⟩
   have s1 : wrap64 ((m : Int) - (i : Int)) = (x : Int) := wr_sub hx hm0
   have s2 : wrap64 ((z : Int) - (i : Int)) = (y : Int) := wr_sub hyz hz0
   have s3 : wrap64 ((j : Int) - (i : Int)) = (j' : Int) := wr_sub hj2 hj0
   have s4 : wrap64 ((m : Int) + (j : Int)) = (z : Int) := wr_add hz.symm hz0
   clear hd hW hlen hij hl hx hy hz hm0 hz0 hyz hj0 hj' hj2 hc z1 z2 z3 hm HIJ HW SZ SW
   go_wp2_with (go_at_call 140; refine C.out.mono ?_; rintro e w2 ⟨rfl, h2⟩; have H2 := hdq h2; clear h2)
   go_roundw
   case rel => exact ⟨i, j', rfl, (by first | rfl | rw [s3]), ⟨Z.out.1, Z.out.2.1⟩, _, NX.out, H2.out⟩
   case measure => have := Z.out.2.2; simp [intOf]; omega
  ·
   subst hc
   have t1 : ((i : Int) != (i : Int)) = false := by simp
   have NX := hdq (hd.same (x := x) (y := m) (by omega) (by omega))
   have C := hdq (SW.out x m i _ _ hW hlen (by omega) (by omega))
   have s1 : wrap64 ((m : Int) - (i : Int)) = (x : Int) := wr_sub hx hm0
   clear hd hW hlen hij hl hx hm0 z1 z2 z3 hm HIJ HW SZ SW
   go_wp2_with (go_at_call 140; refine C.out.mono ?_; rintro e w2 ⟨rfl, h2⟩; have H2 := hdq h2; clear h2)
   go_end0
   exact ⟨rfl, NX.out ▸ H2.out⟩
  ·
   obtain ⟨i', hi'⟩ : ∃ i', i' = i - j := ⟨_, rfl⟩
   have hi2 : i' + j = i := by omega
   have hi0 : i < 2199023255552 := by omega
   have t1 : ((i : Int) != (j : Int)) = true := by simp; omega
   have t2 : (j : Int) < (i : Int) := by omega
   have t3 : j < i := by omega
   have NX := hdq (hd.more (x := x) (y := m) hc (by omega) (by omega))
   rw [← hi'] at NX
   have C := hdq (SW.out x m j _ _ hW hlen (by omega) (by omega))
   have Z : Hid (0 < i' ∧ 0 < j ∧ i' + j < i + j) := ⟨by omega, hij.2, by omega⟩
   have s1 : wrap64 ((m : Int) - (i : Int)) = (x : Int) := wr_sub hx hm0
   have s3 : wrap64 ((i : Int) - (j : Int)) = (i' : Int) := wr_sub hi2 hi0
   clear hd hW hlen hij hl hx hi' hi2 hm0 hi0 hc z1 z2 z3 hm HIJ HW SZ SW
   go_wp2_with (go_at_call 140; refine C.out.mono ?_; rintro e w2 ⟨rfl, h2⟩; have H2 := hdq h2; clear h2)
   go_roundw
   case rel => exact ⟨i', j, (by first | rfl | rw [s3]), rfl, ⟨Z.out.1, Z.out.2.1⟩, _, NX.out, H2.out⟩
   case measure => have := Z.out.2.2; simp [intOf]; omega
structure Cmps (cf : E2 → E2 → Int) : Prop where
 asym : ∀ x y, cf x y < 0 → ¬ cf y x < 0
 trans : ∀ x y z, ¬ cf y x < 0 → ¬ cf z y < 0 → ¬ cf z x < 0
def SortedE (cf : E2 → E2 → Int) (l : List E2) : Prop := l.Pairwise (fun x y => ¬ cf y x < 0)
theorem ins_end {cf : E2 → E2 → Int} (hcf : Cmps cf) {A B : List E2} {x : E2} (h : SortedE cf (A ++ B)) (hB : ∀ b, b ∈ B → cf x b < 0) (hA : ∀ A' y, A = A' ++ [y] → ¬ cf x y < 0) : SortedE cf (A ++ x :: B) := by
 unfold SortedE at h ⊢
 rw [List.pairwise_append] at h ⊢
 obtain ⟨h1, h2, h3⟩ := h
 have hx : ∀ z, z ∈ A → ¬ cf x z < 0 := by
  intro z hz
  rcases List.eq_nil_or_concat A with e | ⟨A', y, e⟩
  ·subst e; cases hz
  ·have e' : A = A' ++ [y] := by simpa using e
   have hy := hA A' y e'
   rw [e'] at hz h1
   rcases List.mem_append.1 hz with hz | hz
   ·have := (List.pairwise_append.1 h1).2.2 z hz y (by simp)
    exact hcf.trans z y x this hy
   ·have : z = y := by simpa using hz
    rw [this]; exact hy
 refine ⟨h1, List.pairwise_cons.2 ⟨fun b hb => hcf.asym _ _ (hB b hb), h2⟩, fun z hz b hb => ?_⟩
 rcases List.mem_cons.1 hb with e | hb
 ·rw [e]; exact hx z hz
 ·exact h3 z hz b hb
theorem swpE_back (Q T : List E2) (x y : E2) : swpE (Q ++ y :: x :: T) (Q.length + 1) Q.length = Q ++ x :: y :: T := by
 unfold swpE
 have e1 : (Q ++ y :: x :: T)[Q.length]! = y := by
  rw [List.getElem!_eq_getElem?_getD, List.getElem?_append_right (Nat.le_refl _)]; simp
 have e2 : (Q ++ y :: x :: T)[Q.length + 1]! = x := by
  rw [List.getElem!_eq_getElem?_getD, List.getElem?_append_right (by omega)]; simp
 rw [e1, e2, List.set_append_right _ _ (by omega), Nat.add_sub_cancel_left, List.set_append_right _ _ (Nat.le_refl _), Nat.sub_self]
 rfl
def Ins (cf : E2 → E2 → Int) (P X S : List E2) (k : Nat) (n : Nat) (d : List E2) : Prop :=
 ∃ (A B : List E2) (x : E2), A.length = n ∧ (A ++ x :: B).Perm (X.take (k + 2)) ∧ SortedE cf (A ++ B) ∧ (∀ b, b ∈ B → cf x b < 0) ∧ d = P ++ (A ++ (x :: (B ++ (X.drop (k + 2) ++ S))))
def Ins0 (cf : E2 → E2 → Int) (P X S : List E2) (k : Nat) (d : List E2) : Prop :=
 ∃ X', X'.Perm (X.take (k + 1)) ∧ SortedE cf X' ∧ d = P ++ (X' ++ (X.drop (k + 1) ++ S))
theorem Ins0.start {cf : E2 → E2 → Int} {P X S : List E2} : Ins0 cf P X S 0 (P ++ (X ++ S)) := by
 cases X with
 | nil => exact ⟨[], .refl _, .nil, rfl⟩
 | cons x X => exact ⟨[x], .refl _, List.pairwise_singleton _ _, rfl⟩
theorem Ins0.finish {cf : E2 → E2 → Int} {P X S : List E2} {k : Nat} {d : List E2} (h : Ins0 cf P X S k d) (hk : X.length ≤ k + 1) : ∃ X', X'.Perm X ∧ SortedE cf X' ∧ d = P ++ (X' ++ S) := by
 obtain ⟨X', h1, h2, h3⟩ := h
 rw [List.take_of_length_le hk] at h1
 rw [List.drop_of_length_le hk] at h3
 exact ⟨X', h1, h2, h3⟩
theorem Ins0.open {cf : E2 → E2 → Int} {P X S : List E2} {k : Nat} {d : List E2} (h : Ins0 cf P X S k d) (hk : k + 1 < X.length) : Ins cf P X S k (k + 1) d := by
 obtain ⟨X', h1, h2, h3⟩ := h
 refine ⟨X', [], X[k + 1], by rw [h1.length_eq, List.length_take]; omega, ?_, by simpa using h2, fun b hb => (by cases hb), ?_⟩
 ·rw [show k + 2 = k + 1 + 1 from rfl, List.take_succ_eq_append_getElem hk]
  exact h1.append_right _
 ·rw [h3, List.drop_eq_getElem_cons hk]; rfl
theorem Ins.sizes {cf : E2 → E2 → Int} {P X S : List E2} {k n : Nat} {d : List E2} (h : Ins cf P X S k n d) : d.Perm (P ++ (X ++ S)) := by
 obtain ⟨A, B, x, h1, h2, h3, h4, rfl⟩ := h
 refine List.Perm.append_left P ?_
 have e : X ++ S = X.take (k + 2) ++ (X.drop (k + 2) ++ S) := by rw [← List.append_assoc, List.take_append_drop]
 rw [e]
 have e2 : A ++ (x :: (B ++ (X.drop (k + 2) ++ S))) = (A ++ x :: B) ++ (X.drop (k + 2) ++ S) := by simp [List.append_assoc]
 rw [e2]
 exact h2.append_right _
theorem Ins.stop {cf : E2 → E2 → Int} (hcf : Cmps cf) {P X S : List E2} {k n : Nat} {d : List E2} (h : Ins cf P X S k n d) (hz : n = 0 ∨ ¬ cf d[P.length + n]! d[P.length + n - 1]! < 0) : Ins0 cf P X S (k + 1) d := by
 obtain ⟨A, B, x, h1, h2, h3, h4, rfl⟩ := h
 refine ⟨A ++ x :: B, h2, ins_end hcf h3 h4 (fun A' y e => ?_), by simp [List.append_assoc]⟩
 subst e
 rw [List.length_append, List.length_singleton] at h1
 rcases hz with hz | hz
 ·omega
 ·subst h1
  have e1 : (P ++ (A' ++ [y] ++ (x :: (B ++ (X.drop (k + 2) ++ S)))))[P.length + (A'.length + 1)]! = x := by
   rw [List.getElem!_eq_getElem?_getD, List.getElem?_append_right (by omega), List.getElem?_append_right (by simp)]; simp
  have e2 : (P ++ (A' ++ [y] ++ (x :: (B ++ (X.drop (k + 2) ++ S)))))[P.length + (A'.length + 1) - 1]! = y := by
   rw [List.getElem!_eq_getElem?_getD, List.getElem?_append_right (by omega), List.append_assoc, List.getElem?_append_right (by omega), show P.length + (A'.length + 1) - 1 - P.length - A'.length = 0 by omega]; rfl
  rw [e1, e2] at hz
  exact hz
theorem Ins.step {cf : E2 → E2 → Int} {P X S : List E2} {k n : Nat} {d : List E2} (h : Ins cf P X S k (n + 1) d) (hz : cf d[P.length + n + 1]! d[P.length + n]! < 0) : Ins cf P X S k n (swpE d (P.length + n + 1) (P.length + n)) := by
 obtain ⟨A, B, x, h1, h2, h3, h4, rfl⟩ := h
 rcases List.eq_nil_or_concat A with e | ⟨A', y, e⟩
 ·subst e; simp at h1
 ·have e' : A = A' ++ [y] := by simpa using e
  subst e'
  have h1' : A'.length = n := by simpa using h1
  subst h1'
  have e0 : P ++ (A' ++ [y] ++ (x :: (B ++ (X.drop (k + 2) ++ S)))) = (P ++ A') ++ y :: x :: (B ++ (X.drop (k + 2) ++ S)) := by simp [List.append_assoc]
  have el : P.length + A'.length = (P ++ A').length := by rw [List.length_append]
  rw [e0, el] at hz ⊢
  have e1 : ((P ++ A') ++ y :: x :: (B ++ (X.drop (k + 2) ++ S)))[(P ++ A').length + 1]! = x := by
   rw [List.getElem!_eq_getElem?_getD, List.getElem?_append_right (by omega)]; simp
  have e2 : ((P ++ A') ++ y :: x :: (B ++ (X.drop (k + 2) ++ S)))[(P ++ A').length]! = y := by
   rw [List.getElem!_eq_getElem?_getD, List.getElem?_append_right (Nat.le_refl _)]; simp
  rw [e1, e2] at hz
  rw [swpE_back]
  refine ⟨A', y :: B, x, rfl, ?_, by simpa [List.append_assoc] using h3, fun b hb => ?_, by simp [List.append_assoc]⟩
  ·refine List.Perm.trans ?_ h2
   rw [List.append_assoc]
   exact List.Perm.append_left A' (List.Perm.swap _ _ _)
  ·rcases List.mem_cons.1 hb with e | hb
   ·rw [e]; exact hz
   ·exact h4 b hb
abbrev byF : Value := .func (.func 44) #[] #[]
def CmpAns (w0 : World) (blk : Nat) (cf : E2 → E2 → Int) (OK : E2 → Prop) : Prop :=
 ∀ (x y : E2) (W : World), OK x → OK y → RestW w0 blk W → Calls Tryz.prog 44 #[.agg #[x.1, x.2], .agg #[y.1, y.2]] W fun e w' => e = .returned (.int .i64 (cf x y)) ∧ Below W.heap.size W w'
set_option maxHeartbeats 4000000 in
theorem insertion_any (blk tag sz cap : Nat) (cf : E2 → E2 → Int) (OK : E2 → Prop) (hcf : Cmps cf) (P X S : List E2) (w0 w : World) (hC : CmpAns w0 blk cf OK) (hOK : ∀ x, x ∈ P ++ (X ++ S) → OK x) (hS : SortW w0 blk tag sz (P ++ (X ++ S)) w) (len a b : Nat) (hlen : (P ++ (X ++ S)).length = len) (ha : P.length = a) (hb : a + X.length = b) (hl : len < 1099511627776) :
 Calls Tryz.prog 99 #[.slice (some ⟨blk, 0, none⟩) len cap, .int .i64 a, .int .i64 b, byF] w fun e w' => e = .returned (.tuple #[]) ∧ ∃ X', X'.Perm X ∧ SortedE cf X' ∧ SortW w0 blk tag sz (P ++ (X' ++ S)) w' := by
 have hle : b ≤ len := by rw [← hlen, ← hb, ← ha]; simp only [List.length_append]; omega
 have HB := hdq hb
 have HA := hdq ha
 have HLE : Hid (b ≤ len ∧ len < 1099511627776) := ⟨hle, hl⟩
 have HC := hdq hC
 have HCF := hdq hcf
 have HOK := hdq hOK
 have HLN := hdq hlen
 have ST : Hid (∃ d, Ins0 cf P X S 0 d ∧ SortW w0 blk tag sz d w) := ⟨_, Ins0.start, hS⟩
 have s0 : wrap64 ((a : Int) + 1) = ((a + 1 : Nat) : Int) := wr_i64 _ (by omega) (by omega) (by omega)
 clear hS hlen ha hb hle hl hC hOK hcf
 go_enter Tryz.func99, Tryz.ntmps99
 go_wp2
 go_loopw [8] (fun vi wr => ∃ k : Nat, vi = .int .i64 ((a + 1 + k : Nat) : Int) ∧ Hid (a + 1 + k ≤ b + 1) ∧ Hid (∃ d, Ins0 cf P X S k d ∧ SortW w0 blk tag sz d wr)) (fun vi _ => b + 1 - (intOf vi).toNat)
 case atStart => exact ⟨0, (by first | rfl | rw [s0]), hdq (by have := HB.out; omega), ST⟩
 case round =>
  obtain ⟨k, rfl, HK, HW⟩ := hrel
  clear ST s0
  obtain ⟨i, hi⟩ : ∃ i, i = a + 1 + k := ⟨_, rfl⟩
  have HI := hdq hi
  rw [← hi]
  by_cases hlt : i < b
  ·have hlt' : (i : Int) < (b : Int) := by omega
   have IN : Hid (∃ d, Ins cf P X S k (k + 1) d ∧ SortW w0 blk tag sz d wr) := by
    obtain ⟨d, h1, h2⟩ := HW.out
    exact ⟨d, h1.open (by have := HB.out; omega), h2⟩
   have HIB := hdq hlt
   obtain ⟨ii, hii⟩ : ∃ ii, ii = i + 1 := ⟨_, rfl⟩
   have HII := hdq hii
   have ri : IntKind.i64.wrap ((i : Int) + 1) = (ii : Int) := by have := HLE.out; rw [IntKind.wrap_i64]; omega
   have si : wrap64 ((i : Int) + 1) = (ii : Int) := by have := HLE.out; clear ri; exact wr_i64 _ (by omega) (by omega) (by omega)
   clear hii
   clear HW hi
   go_wp2
   go_loopw [9] (fun vj wr2 => ∃ n : Nat, vj = .int .i64 ((a + n : Nat) : Int) ∧ Hid (n ≤ k + 1) ∧ Hid (∃ d, Ins cf P X S k n d ∧ SortW w0 blk tag sz d wr2)) (fun vj _ => (intOf vj).toNat - a)
   case atStart => exact ⟨k + 1, by rw [HI.out, show a + 1 + k = a + (k + 1) by omega], hdq (Nat.le_refl _), IN⟩
   case round =>
    obtain ⟨n, rfl, HN, HW⟩ := hrel
    clear IN
    obtain ⟨j, hj⟩ : ∃ j, j = a + n := ⟨_, rfl⟩
    have HJ := hdq hj
    rw [← hj]
    by_cases hn : n = 0
    ·have hg : ¬ (a : Int) < (j : Int) := by omega
     have hg2 : j ≤ a := by omega
     have MS : Hid (a + 1 + (k + 1) ≤ b + 1 ∧ b + 1 - ii < b + 1 - i ∧ ii = a + 1 + (k + 1)) := by
      have q1 := HIB.out
      have q2 := HI.out
      have q4 := HII.out
      clear si ri
      exact ⟨by omega, by omega, by omega⟩
     have NX : Hid (∃ d, Ins0 cf P X S (k + 1) d ∧ SortW w0 blk tag sz d wr.drew) := by
      obtain ⟨d, h1, h2⟩ := HW.out
      exact ⟨d, h1.stop HCF.out (Or.inl hn), h2.drew⟩
     clear HW hj hn
     go_wp2
     refine wp_region_held_drew (S := fun W : World => Hid (∃ d, Ins0 cf P X S (k + 1) d ∧ SortW w0 blk tag sz d W)) (by kernel_rfl) (NX) (fun hHeld => ?_)
     refine take_to (i := 0) (d := some 18) (v := (.int .i64 (j : Int))) rfl rfl (by kernel_rfl) (by kernel_rfl) (by kernel_rfl) (fun _ _ _ h => h) (Or.inl ⟨by rfl, ?_⟩) hHeld ?_
     ·intro W hSw; (try dsimp only at hSw); go_simp; try with_reducible rfl
     try simp only [Act.put, List.setIfInBounds_toArray, List.set_cons_zero, List.set_cons_succ]
     refine take_to (i := 1) (d := some 19) (v := (.int .i64 (a : Int))) rfl rfl (by kernel_rfl) (by kernel_rfl) (by kernel_rfl) (fun _ _ _ h => h) (Or.inl ⟨by rfl, ?_⟩) hHeld ?_
     ·intro W hSw; (try dsimp only at hSw); go_simp; try with_reducible rfl
     try simp only [Act.put, List.setIfInBounds_toArray, List.set_cons_zero, List.set_cons_succ]
     refine take_to (i := 2) (d := some 20) (v := (.bool false)) rfl rfl (by kernel_rfl) (by kernel_rfl) (by kernel_rfl) (fun _ _ _ h => h) (Or.inl ⟨by rfl, ?_⟩) hHeld ?_
     ·intro W hSw; (try dsimp only at hSw); go_simp; try with_reducible rfl
     try simp only [Act.put, List.setIfInBounds_toArray, List.set_cons_zero, List.set_cons_succ]
     refine take_to (i := 3) (d := some 21) (v := (.bool false)) rfl rfl (by kernel_rfl) (by kernel_rfl) (by kernel_rfl) (fun _ _ _ h => h) (Or.inl ⟨by rfl, ?_⟩) hHeld ?_
     ·intro W hSw; (try dsimp only at hSw); go_simp; try with_reducible rfl
     try simp only [Act.put, List.setIfInBounds_toArray, List.set_cons_zero, List.set_cons_succ]
     refine take_to (i := 4) (d := some 22) (v := undef) rfl rfl (by kernel_rfl) (by kernel_rfl) (by kernel_rfl) (fun _ _ _ h => h) (Or.inr ⟨by rfl, rfl⟩) hHeld ?_
     try simp only [Act.put, List.setIfInBounds_toArray, List.set_cons_zero, List.set_cons_succ]
     refine take_to (i := 5) (d := some 23) (v := undef) rfl rfl (by kernel_rfl) (by kernel_rfl) (by kernel_rfl) (fun _ _ _ h => h) (Or.inr ⟨by rfl, rfl⟩) hHeld ?_
     try simp only [Act.put, List.setIfInBounds_toArray, List.set_cons_zero, List.set_cons_succ]
     refine take_to (i := 6) (d := some 24) (v := undef) rfl rfl (by kernel_rfl) (by kernel_rfl) (by kernel_rfl) (fun _ _ _ h => h) (Or.inr ⟨by rfl, rfl⟩) hHeld ?_
     try simp only [Act.put, List.setIfInBounds_toArray, List.set_cons_zero, List.set_cons_succ]
     refine take_to (i := 7) (d := some 25) (v := undef) rfl rfl (by kernel_rfl) (by kernel_rfl) (by kernel_rfl) (fun _ _ _ h => h) (Or.inr ⟨by rfl, rfl⟩) hHeld ?_
     try simp only [Act.put, List.setIfInBounds_toArray, List.set_cons_zero, List.set_cons_succ]
     refine take_to (i := 8) (d := some 26) (v := undef) rfl rfl (by kernel_rfl) (by kernel_rfl) (by kernel_rfl) (fun _ _ _ h => h) (Or.inr ⟨by rfl, rfl⟩) hHeld ?_
     try simp only [Act.put, List.setIfInBounds_toArray, List.set_cons_zero, List.set_cons_succ]
     refine take_to (i := 9) (d := some 27) (v := undef) rfl rfl (by kernel_rfl) (by kernel_rfl) (by kernel_rfl) (fun _ _ _ h => h) (Or.inr ⟨by rfl, rfl⟩) hHeld ?_
     try simp only [Act.put, List.setIfInBounds_toArray, List.set_cons_zero, List.set_cons_succ]
     refine take_to (i := 10) (d := some 28) (v := undef) rfl rfl (by kernel_rfl) (by kernel_rfl) (by kernel_rfl) (fun _ _ _ h => h) (Or.inr ⟨by rfl, rfl⟩) hHeld ?_
     try simp only [Act.put, List.setIfInBounds_toArray, List.set_cons_zero, List.set_cons_succ]
     refine take_to (i := 11) (d := some 29) (v := undef) rfl rfl (by kernel_rfl) (by kernel_rfl) (by kernel_rfl) (fun _ _ _ h => h) (Or.inr ⟨by rfl, rfl⟩) hHeld ?_
     try simp only [Act.put, List.setIfInBounds_toArray, List.set_cons_zero, List.set_cons_succ]
     refine take_to (i := 12) (d := some 30) (v := undef) rfl rfl (by kernel_rfl) (by kernel_rfl) (by kernel_rfl) (fun _ _ _ h => h) (Or.inr ⟨by rfl, rfl⟩) hHeld ?_
     try simp only [Act.put, List.setIfInBounds_toArray, List.set_cons_zero, List.set_cons_succ]
     refine take_to (i := 13) (d := some 31) (v := undef) rfl rfl (by kernel_rfl) (by kernel_rfl) (by kernel_rfl) (fun _ _ _ h => h) (Or.inr ⟨by rfl, rfl⟩) hHeld ?_
     try simp only [Act.put, List.setIfInBounds_toArray, List.set_cons_zero, List.set_cons_succ]
     refine take_to (i := 14) (d := some 32) (v := undef) rfl rfl (by kernel_rfl) (by kernel_rfl) (by kernel_rfl) (fun _ _ _ h => h) (Or.inr ⟨by rfl, rfl⟩) hHeld ?_
     try simp only [Act.put, List.setIfInBounds_toArray, List.set_cons_zero, List.set_cons_succ]
     refine take_to (i := 15) (d := some 33) (v := undef) rfl rfl (by kernel_rfl) (by kernel_rfl) (by kernel_rfl) (fun _ _ _ h => h) (Or.inr ⟨by rfl, rfl⟩) hHeld ?_
     try simp only [Act.put, List.setIfInBounds_toArray, List.set_cons_zero, List.set_cons_succ]
     refine take_to (i := 16) (d := some 34) (v := (.bool false)) rfl rfl (by kernel_rfl) (by kernel_rfl) (by kernel_rfl) (fun _ _ _ h => h) (Or.inl ⟨by rfl, ?_⟩) hHeld ?_
     ·intro W hSw; (try dsimp only at hSw); go_simp; try with_reducible rfl
     try simp only [Act.put, List.setIfInBounds_toArray, List.set_cons_zero, List.set_cons_succ]
     refine wpAnyH_done (by kernel_rfl) ?_ _
     clear hHeld
     go_wp2
     go_roundw
     case rel => exact ⟨k + 1, by rw [← MS.out.2.2], MS.out.1, NX⟩
     case measure => simpa [intOf] using MS.out.2.1
    ·obtain ⟨m, rfl⟩ : ∃ m, n = m + 1 := ⟨n - 1, by omega⟩
     obtain ⟨j1, hj1⟩ : ∃ j1, j1 = a + m := ⟨_, rfl⟩
     have hjj : j = j1 + 1 := by omega
     obtain ⟨d, hI, hW⟩ := HW.out
     have hdl : d.length = len := by rw [hI.sizes.length_eq, HLN.out]
     have hle := HLE.out
     have hjl : j < len := by have := HIB.out; have := HI.out; have := HN.out; omega
     have hOKd : ∀ z, z ∈ d → OK z := fun z hz => HOK.out z (hI.sizes.mem_iff.1 hz)
     obtain ⟨x, hx⟩ : ∃ x, x = d[j]! := ⟨_, rfl⟩
     obtain ⟨y, hy⟩ : ∃ y, y = d[j1]! := ⟨_, rfl⟩
     have gx := E2.get! (dk := d) (i := j) (by omega)
     have gy := E2.get! (dk := d) (i := j1) (by omega)
     rw [← hx] at gx
     rw [← hy] at gy
     have okx := hOKd x (List.mem_of_getElem? gx)
     have oky := hOKd y (List.mem_of_getElem? gy)
     obtain ⟨c1, c2, _, _⟩ := hW.cells gx
     obtain ⟨c3, c4, _, _⟩ := hW.cells gy
     have GX := hdq gx
     have GY := hdq gy
     have HD := hdq hW
     obtain ⟨p, hp⟩ : ∃ p, p = cf x y := ⟨_, rfl⟩
     have STOP : Hid (¬ p < 0 → Ins0 cf P X S (k + 1) d) := hdq (fun h => hI.stop HCF.out (Or.inr (by
      rw [HA.out, show a + (m + 1) = j by omega, show j - 1 = j1 by omega, ← hx, ← hy, ← hp]; exact h)))
     have STEP : Hid (p < 0 → Ins cf P X S k m (swpE d j j1)) := hdq (fun h => by
      have := hI.step (by rw [HA.out, show a + m + 1 = j by omega, ← hj1, ← hx, ← hy, ← hp]; exact h)
      rw [HA.out, show a + m + 1 = j by omega, ← hj1] at this
      exact this)
     have HSW : Hid (∀ W, SortW w0 blk tag sz d W → SortW w0 blk tag sz (swpE d j j1) ((((W.setCell ⟨blk, j * 2, none⟩ y.1).setCell ⟨blk, j * 2 + 1, none⟩ y.2).setCell ⟨blk, j1 * 2, none⟩ x.1).setCell ⟨blk, j1 * 2 + 1, none⟩ x.2).drew) := hdq (fun W h => by
      have := h.swap (i := j) (j := j1) (by omega) (by omega)
      rw [← hx, ← hy] at this
      exact this.drew)
     obtain ⟨x0, x1⟩ := x
     obtain ⟨y0, y1⟩ := y
     simp only at c1 c2 c3 c4 HSW
     have HCC : Hid (∀ W : World, (W.cell? ⟨blk, j * 2, none⟩ = some x0 ∧ W.cell? ⟨blk, j * 2 + 1, none⟩ = some x1 ∧ W.cell? ⟨blk, j1 * 2, none⟩ = some y0 ∧ W.cell? ⟨blk, j1 * 2 + 1, none⟩ = some y1 ∧ Hid (SortW w0 blk tag sz d W)) → Calls Tryz.prog 44 #[.agg #[x0, x1], .agg #[y0, y1]] W fun e w' => e = .returned (.int .i64 p) ∧ (w'.cell? ⟨blk, j * 2, none⟩ = some x0 ∧ w'.cell? ⟨blk, j * 2 + 1, none⟩ = some x1 ∧ w'.cell? ⟨blk, j1 * 2, none⟩ = some y0 ∧ w'.cell? ⟨blk, j1 * 2 + 1, none⟩ = some y1 ∧ Hid (SortW w0 blk tag sz d w'))) := hdq (fun W hS => (HC.out (x0, x1) (y0, y1) W okx oky hS.2.2.2.2.out.2.1).mono (fun e w' h => by
      have h2 := hS.2.2.2.2.out.below h.2
      obtain ⟨q1, q2, _, _⟩ := h2.cells GX.out
      obtain ⟨q3, q4, _, _⟩ := h2.cells GY.out
      exact ⟨by rw [h.1, hp], q1, q2, q3, q4, hdq h2⟩))
     have gj : (a : Int) < (j : Int) := by omega
     have gj2 : a < j := by omega
     have pj : (0 : Int) ≤ (j : Int) := by omega
     have bj : (j : Int) < (len : Int) := by omega
     have pj1 : (0 : Int) ≤ (j1 : Int) := by omega
     have bj1 : (j1 : Int) < (len : Int) := by omega
     have nj1 : j1 < len := by omega
     have NE : Hid (¬ j * 2 = j1 * 2 ∧ ¬ j * 2 + 1 = j1 * 2 ∧ ¬ j * 2 = j1 * 2 + 1 ∧ ¬ j * 2 + 1 = j1 * 2 + 1) := ⟨by omega, by omega, by omega, by omega⟩
     have MS : Hid (m ≤ k + 1 ∧ j1 - a < j - a ∧ a + 1 + (k + 1) ≤ b + 1 ∧ b + 1 - ii < b + 1 - i ∧ ii = a + 1 + (k + 1)) := by
      have q1 := HIB.out
      have q2 := HI.out
      have q4 := HII.out
      clear si ri
      have q3 := HN.out
      exact ⟨by omega, by omega, by omega, by omega, by omega⟩
     have R1 : Hid (IntKind.i64.wrap ((j : Int) - 1) = (j1 : Int)) := hdq (by clear si ri; rw [IntKind.wrap_i64]; omega)
     have s1 : wrap64 ((j : Int) - 1) = (j1 : Int) := by clear si ri R1; exact wr_i64 _ (by omega) (by omega) (by omega)
     have r1 := R1.out
     have HJ1 : Hid (j = j1 + 1 ∧ j1 = a + m) := ⟨hjj, hj1⟩
     clear hI hW hdl hle hOKd hx hy gx gy okx oky hp hjj hj1 hj hn HW HJ
     by_cases hp0 : p < 0
     ·have NX := hdq (STEP.out hp0)
      go_wp2
      go_region_held3 (fun W : World => W.cell? ⟨blk, j * 2, none⟩ = some x0 ∧ W.cell? ⟨blk, j * 2 + 1, none⟩ = some x1 ∧ W.cell? ⟨blk, j1 * 2, none⟩ = some y0 ∧ W.cell? ⟨blk, j1 * 2 + 1, none⟩ = some y1 ∧ Hid (SortW w0 blk tag sz d W)) (first | (exact ⟨by simpa using c1, by simpa using c2, by simpa using c3, by simpa using c4, hdq HD.out.drew⟩) | assumption) (first | (go_at_call 44; refine (HCC.out _ (by assumption)).mono ?_; rintro e wx ⟨rfl, hSx⟩))
      obtain ⟨_, _, _, _, hSE⟩ := hSx
      clear c1 c2 c3 c4
      obtain ⟨c1, c2, f1, f2⟩ := hSE.out.cells GX.out
      obtain ⟨c3, c4, f3, f4⟩ := hSE.out.cells GY.out
      have o1 := hSE.out.one GX.out
      have o2 := hSE.out.one GY.out
      have HFIN := hdq (HSW.out wx hSE.out)
      simp only at c1 c2 c3 c4 f1 f2 f3 f4 o1 o2
      have sx0 : ∀ (W : World) (p : Addr) (m : Mode), (store p x0 m).run Tryz.prog W = stored Tryz.prog W p x0 m := fun W p m => run_store Tryz.prog W p x0 m o1.1
      have sx1 : ∀ (W : World) (p : Addr) (m : Mode), (store p x1 m).run Tryz.prog W = stored Tryz.prog W p x1 m := fun W p m => run_store Tryz.prog W p x1 m o1.2
      have sy0 : ∀ (W : World) (p : Addr) (m : Mode), (store p y0 m).run Tryz.prog W = stored Tryz.prog W p y0 m := fun W p m => run_store Tryz.prog W p y0 m o2.1
      have sy1 : ∀ (W : World) (p : Addr) (m : Mode), (store p y1 m).run Tryz.prog W = stored Tryz.prog W p y1 m := fun W p m => run_store Tryz.prog W p y1 m o2.2
      have ne := NE.out
      obtain ⟨ne1, ne2, ne3, ne4⟩ := ne
      clear o1 o2 hSE HCC STOP STEP HSW HD GX GY
      go_wp2_with fail
      go_big_region
      go_wp2
      go_roundw
      case rel => exact ⟨m, by rw [HJ1.out.2], MS.out.1, _, NX.out, HFIN.out⟩
      case measure => simpa [intOf] using MS.out.2.1
     ·have NX := hdq (STOP.out hp0)
      have HP1 := hdq hp0
      clear hp0
      go_wp2
      go_region_held3 (fun W : World => W.cell? ⟨blk, j * 2, none⟩ = some x0 ∧ W.cell? ⟨blk, j * 2 + 1, none⟩ = some x1 ∧ W.cell? ⟨blk, j1 * 2, none⟩ = some y0 ∧ W.cell? ⟨blk, j1 * 2 + 1, none⟩ = some y1 ∧ Hid (SortW w0 blk tag sz d W)) (first | (exact ⟨by simpa using c1, by simpa using c2, by simpa using c3, by simpa using c4, hdq HD.out.drew⟩) | assumption) (first | (go_at_call 44; refine (HCC.out _ (by assumption)).mono ?_; rintro e wx ⟨rfl, hSx⟩))
      have HFIN := hdq hSx.2.2.2.2.out
      clear hSx c1 c2 c3 c4 HCC STOP STEP HSW HD GX GY
      have hd0 : decide (p < 0) = false := decide_eq_false (Int.not_lt.2 HP1.out)
      rw [hd0]
      clear hd0
      go_wp2
      go_roundw
      case rel => exact ⟨k + 1, by rw [← MS.out.2.2.2.2], MS.out.2.2.1, _, NX.out, HFIN.out⟩
      case measure => simpa [intOf] using MS.out.2.2.2.1
  ·have hx : b ≤ i := by omega
   have hlt' : ¬ (i : Int) < (b : Int) := by omega
   have FN : Hid (∃ X', X'.Perm X ∧ SortedE cf X' ∧ SortW w0 blk tag sz (P ++ (X' ++ S)) wr) := by
    obtain ⟨d, h1, h2⟩ := HW.out
    obtain ⟨X', q1, q2, rfl⟩ := h1.finish (by have := HB.out; omega)
    exact ⟨X', q1, q2, h2⟩
   go_wp2
   go_end0
   exact ⟨rfl, FN.out⟩
theorem Cmps.refl {cf : E2 → E2 → Int} (hcf : Cmps cf) (x : E2) : ¬ cf x x < 0 := fun h => hcf.asym x x h h
theorem Cmps.lt_of_le {cf : E2 → E2 → Int} (hcf : Cmps cf) {x y z : E2} (h1 : ¬ cf y x < 0) (h2 : cf y z < 0) : cf x z < 0 :=
 Decidable.byContradiction fun h => hcf.trans z x y h h1 h2
theorem SortedE.at {cf : E2 → E2 → Int} (hcf : Cmps cf) {l : List E2} (h : SortedE cf l) {i j : Nat} (hij : i ≤ j) (hj : j < l.length) : ¬ cf l[j]! l[i]! < 0 := by
 rw [List.getElem!_eq_getElem?_getD, List.getElem!_eq_getElem?_getD, List.getElem?_eq_getElem hj, List.getElem?_eq_getElem (by omega)]
 rcases Nat.lt_or_ge i j with h1 | h1
 ·exact (List.pairwise_iff_getElem.1 h) i j (by omega) hj h1
 ·obtain rfl : i = j := by omega
  exact hcf.refl _
theorem mem_take_at {l : List E2} {s : Nat} {x : E2} (h : x ∈ l.take s) : ∃ i, i < s ∧ i < l.length ∧ x = l[i]! := by
 obtain ⟨i, hi, e⟩ := List.mem_iff_getElem.1 h
 rw [List.length_take] at hi
 refine ⟨i, by omega, by omega, ?_⟩
 rw [← e, List.getElem_take, List.getElem!_eq_getElem?_getD, List.getElem?_eq_getElem (by omega)]
 rfl
theorem mem_drop_at {l : List E2} {s : Nat} {x : E2} (h : x ∈ l.drop s) : ∃ i, s ≤ i ∧ i < l.length ∧ x = l[i]! := by
 obtain ⟨i, hi, e⟩ := List.mem_iff_getElem.1 h
 rw [List.length_drop] at hi
 refine ⟨s + i, by omega, by omega, ?_⟩
 rw [← e, List.getElem_drop, List.getElem!_eq_getElem?_getD, List.getElem?_eq_getElem (by omega)]
 rfl
theorem sym_split {cf : E2 → E2 → Int} (hcf : Cmps cf) {L R : List E2} (hL : SortedE cf L) (hR : SortedE cf R) {s q : Nat} (hs : s ≤ L.length) (hq : q ≤ R.length)
 (h1 : s = 0 ∨ q = R.length ∨ ¬ cf R[q]! L[s - 1]! < 0) (h2 : q = 0 ∨ s = L.length ∨ cf R[q - 1]! L[s]! < 0) :
 ∀ x, x ∈ L.take s ++ R.take q → ∀ y, y ∈ L.drop s ++ R.drop q → ¬ cf y x < 0 := by
 intro x hx y hy
 rcases List.mem_append.1 hx with hx | hx <;> rcases List.mem_append.1 hy with hy | hy
 ·obtain ⟨i, i1, i2, rfl⟩ := mem_take_at hx
  obtain ⟨j, j1, j2, rfl⟩ := mem_drop_at hy
  exact hL.at hcf (by omega) j2
 ·obtain ⟨i, i1, i2, rfl⟩ := mem_take_at hx
  obtain ⟨j, j1, j2, rfl⟩ := mem_drop_at hy
  have e1 := hL.at hcf (i := i) (j := s - 1) (by omega) (by omega)
  have e2 := hR.at hcf (i := q) (j := j) j1 j2
  rcases h1 with h1 | h1 | h1
  ·omega
  ·omega
  ·exact hcf.trans _ _ _ (hcf.trans _ _ _ e1 h1) e2
 ·obtain ⟨i, i1, i2, rfl⟩ := mem_take_at hx
  obtain ⟨j, j1, j2, rfl⟩ := mem_drop_at hy
  have e1 := hR.at hcf (i := i) (j := q - 1) (by omega) (by omega)
  have e2 := hL.at hcf (i := s) (j := j) j1 j2
  rcases h2 with h2 | h2 | h2
  ·omega
  ·omega
  ·exact hcf.trans _ _ _ (hcf.trans _ _ _ e1 (hcf.asym _ _ h2)) e2
 ·obtain ⟨i, i1, i2, rfl⟩ := mem_take_at hx
  obtain ⟨j, j1, j2, rfl⟩ := mem_drop_at hy
  exact hR.at hcf (by omega) j2
theorem one_left {cf : E2 → E2 → Int} (hcf : Cmps cf) {R : List E2} {x : E2} (hR : SortedE cf R) {q : Nat} (hq : q ≤ R.length) (h1 : q = 0 ∨ cf R[q - 1]! x < 0) (h2 : q = R.length ∨ ¬ cf R[q]! x < 0) :
 (R.take q ++ x :: R.drop q).Perm ([x] ++ R) ∧ SortedE cf (R.take q ++ x :: R.drop q) := by
 have hL : SortedE cf [x] := List.pairwise_singleton _ _
 constructor
 ·have e : [x] ++ R = x :: (R.take q ++ R.drop q) := by rw [List.take_append_drop]; rfl
  rw [e]; exact List.perm_middle
 ·refine List.pairwise_append.2 ⟨hR.sublist (List.take_sublist _ _), List.pairwise_cons.2 ⟨fun y hy => ?_, hR.sublist (List.drop_sublist _ _)⟩, fun z hz y hy => ?_⟩
  ·obtain ⟨j, j1, j2, rfl⟩ := mem_drop_at hy
   rcases h2 with h2 | h2
   ·omega
   ·exact hcf.trans _ _ _ h2 (hR.at hcf j1 j2)
  ·obtain ⟨i, i1, i2, rfl⟩ := mem_take_at hz
   rcases List.mem_cons.1 hy with e | hy
   ·rw [e]
    rcases h1 with h1 | h1
    ·omega
    ·exact hcf.trans _ _ _ (hR.at hcf (i := i) (j := q - 1) (by omega) (by omega)) (hcf.asym _ _ h1)
   ·obtain ⟨j, j1, j2, rfl⟩ := mem_drop_at hy
    exact hR.at hcf (by omega) j2
theorem one_right {cf : E2 → E2 → Int} (hcf : Cmps cf) {L : List E2} {x : E2} (hL : SortedE cf L) {s : Nat} (hs : s ≤ L.length) (h1 : s = 0 ∨ ¬ cf x L[s - 1]! < 0) (h2 : s = L.length ∨ cf x L[s]! < 0) :
 (L.take s ++ x :: L.drop s).Perm (L ++ [x]) ∧ SortedE cf (L.take s ++ x :: L.drop s) := by
 constructor
 ·have e : L ++ [x] = L.take s ++ (L.drop s ++ [x]) := by rw [← List.append_assoc, List.take_append_drop]
  rw [e]
  exact List.Perm.append_left _ (List.perm_append_comm (l₁ := [x]) (l₂ := L.drop s))
 ·refine List.pairwise_append.2 ⟨hL.sublist (List.take_sublist _ _), List.pairwise_cons.2 ⟨fun y hy => ?_, hL.sublist (List.drop_sublist _ _)⟩, fun z hz y hy => ?_⟩
  ·obtain ⟨j, j1, j2, rfl⟩ := mem_drop_at hy
   rcases h2 with h2 | h2
   ·omega
   ·exact hcf.trans _ _ _ (hcf.asym _ _ h2) (hL.at hcf j1 j2)
  ·obtain ⟨i, i1, i2, rfl⟩ := mem_take_at hz
   rcases List.mem_cons.1 hy with e | hy
   ·rw [e]
    rcases h1 with h1 | h1
    ·omega
    ·exact hcf.trans _ _ _ (hL.at hcf (i := i) (j := s - 1) (by omega) (by omega)) h1
   ·obtain ⟨j, j1, j2, rfl⟩ := mem_drop_at hy
    exact hL.at hcf (by omega) j2
theorem wrI_add {a b c : Nat} (h : a + b = c) (hc : c < 2199023255552) : IntKind.i64.wrap ((a : Int) + (b : Int)) = (c : Int) := by rw [IntKind.wrap_i64]; omega
theorem wrI_sub {a b c : Nat} (h : c + b = a) (hc : a < 2199023255552) : IntKind.i64.wrap ((a : Int) - (b : Int)) = (c : Int) := by rw [IntKind.wrap_i64]; omega
theorem wrI_nat {c : Nat} (hc : c < 2199023255552) : IntKind.i64.wrap (c : Int) = (c : Int) := by rw [IntKind.wrap_i64]; omega
theorem wrU_nat {c : Nat} (hc : c < 2199023255552) : IntKind.u64.wrap (c : Int) = (c : Int) := by rw [IntKind.wrap_u64]; omega
def Bs (q : Nat → Prop) (lo hi i j : Nat) : Prop := lo ≤ i ∧ i ≤ j ∧ j ≤ hi ∧ (∀ k, lo ≤ k → k < i → q k) ∧ (∀ k, j ≤ k → k < hi → ¬ q k)
theorem Bs.right {q : Nat → Prop} {lo hi i j h : Nat} (H : Bs q lo hi i j) (hm : ∀ a b, lo ≤ a → a ≤ b → b < hi → q b → q a) (hh : h = (i + j) / 2) (hij : i < j) (hq : q h) : Bs q lo hi (h + 1) j := by
 obtain ⟨h1, h2, h3, h4, h5⟩ := H
 exact ⟨by omega, by omega, h3, fun k k1 k2 => hm k h k1 (by omega) (by omega) hq, h5⟩
theorem Bs.left {q : Nat → Prop} {lo hi i j h : Nat} (H : Bs q lo hi i j) (hm : ∀ a b, lo ≤ a → a ≤ b → b < hi → q b → q a) (hh : h = (i + j) / 2) (hij : i < j) (hq : ¬ q h) : Bs q lo hi i h := by
 obtain ⟨h1, h2, h3, h4, h5⟩ := H
 exact ⟨h1, by omega, by omega, h4, fun k k1 k2 qk => hq (hm h k (by omega) k1 k2 qk)⟩
def mv (P R S : List E2) (x : E2) (n : Nat) : List E2 := P ++ (R.take n ++ x :: (R.drop n ++ S))
theorem mv_length (P R S : List E2) (x : E2) (n : Nat) : (mv P R S x n).length = P.length + (R.length + S.length + 1) := by
 have h : (R.take n).length + (R.drop n).length = R.length := by rw [← List.length_append, List.take_append_drop]
 unfold mv
 simp only [List.length_append, List.length_cons]
 omega
theorem swpE_fwd (Q T : List E2) (x y : E2) : swpE (Q ++ x :: y :: T) Q.length (Q.length + 1) = Q ++ y :: x :: T := by
 unfold swpE
 have e1 : (Q ++ x :: y :: T)[Q.length]! = x := by
  rw [List.getElem!_eq_getElem?_getD, List.getElem?_append_right (Nat.le_refl _)]; simp
 have e2 : (Q ++ x :: y :: T)[Q.length + 1]! = y := by
  rw [List.getElem!_eq_getElem?_getD, List.getElem?_append_right (by omega)]; simp
 rw [e1, e2, List.set_append_right _ _ (Nat.le_refl _), Nat.sub_self, List.set_append_right _ _ (by omega), Nat.add_sub_cancel_left]
 rfl
theorem mv_at {P R S : List E2} {x : E2} {n : Nat} (h : n < R.length) : mv P R S x n = (P ++ R.take n) ++ x :: R[n] :: (R.drop (n + 1) ++ S) := by
 unfold mv
 rw [List.drop_eq_getElem_cons h, List.append_assoc]
 rfl
theorem mv_at2 {P R S : List E2} {x : E2} {n : Nat} (h : n < R.length) : mv P R S x (n + 1) = (P ++ R.take n) ++ R[n] :: x :: (R.drop (n + 1) ++ S) := by
 unfold mv
 rw [List.take_succ_eq_append_getElem h, List.append_assoc, List.append_assoc]
 rfl
theorem mv_eq (P R S : List E2) (x : E2) (n : Nat) : mv P R S x n = P ++ ((R.take n ++ x :: R.drop n) ++ S) := by
 unfold mv; simp only [List.append_assoc, List.cons_append]
theorem mv_up {P R S : List E2} {x : E2} {n : Nat} (h : n < R.length) : swpE (mv P R S x n) (P.length + n) (P.length + n + 1) = mv P R S x (n + 1) := by
 rw [mv_at h, mv_at2 h]
 have e : P.length + n = (P ++ R.take n).length := by rw [List.length_append, List.length_take]; omega
 rw [e, swpE_fwd]
theorem mv_down {P R S : List E2} {x : E2} {n : Nat} (h : n < R.length) : swpE (mv P R S x (n + 1)) (P.length + n + 1) (P.length + n) = mv P R S x n := by
 rw [mv_at h, mv_at2 h]
 have e : P.length + n = (P ++ R.take n).length := by rw [List.length_append, List.length_take]; omega
 rw [e, swpE_back]
set_option maxHeartbeats 4000000 in
theorem symL_any (blk tag sz cap : Nat) (cf : E2 → E2 → Int) (OK : E2 → Prop) (hcf : Cmps cf) (P R S : List E2) (x : E2) (w0 w : World) (hC : CmpAns w0 blk cf OK) (hOK : ∀ x', x' ∈ P ++ (x :: (R ++ S)) → OK x') (hR : SortedE cf R) (h0 : 0 < R.length)
 (hS : SortW w0 blk tag sz (P ++ (x :: (R ++ S))) w) (len a m b : Nat) (hlen : (P ++ (x :: (R ++ S))).length = len) (ha : P.length = a) (hm : a + 1 = m) (hb : m + R.length = b) (hl : len < 1099511627776) :
 Calls Tryz.prog 100 #[.slice (some ⟨blk, 0, none⟩) len cap, .int .i64 a, .int .i64 m, .int .i64 b, byF] w fun e w' => e = .returned (.tuple #[]) ∧ ∃ X', X'.Perm ([x] ++ R) ∧ SortedE cf X' ∧ SortW w0 blk tag sz (P ++ (X' ++ S)) w' := by
 obtain ⟨d, hd⟩ : ∃ d, d = P ++ (x :: (R ++ S)) := ⟨_, rfl⟩
 rw [← hd] at hS hOK hlen
 have hle : b ≤ len := by rw [← hlen, hd, ← hb, ← hm, ← ha]; simp only [List.length_append, List.length_cons]; omega
 have hx : d[a]! = x := by rw [hd, ← ha, List.getElem!_eq_getElem?_getD, List.getElem?_append_right (Nat.le_refl _)]; simp
 have hr : ∀ k, m ≤ k → k < b → d[k]! = R[k - m]! := fun k h1 h2 => by
  rw [hd, List.getElem!_eq_getElem?_getD, List.getElem!_eq_getElem?_getD, List.getElem?_append_right (by omega), show k - P.length = (k - m) + 1 by omega, List.getElem?_cons_succ, List.getElem?_append_left (by omega)]
 have MONO : Hid (∀ u v, m ≤ u → u ≤ v → v < b → cf d[v]! x < 0 → cf d[u]! x < 0) := hdq (fun u v h1 h2 h3 h4 => by
  rw [hr u h1 (by omega)]
  rw [hr v (by omega) h3] at h4
  exact hcf.lt_of_le (hR.at hcf (by omega) (by omega)) h4)
 have HCF := hdq hcf
 have HC := hdq hC
 have HOK := hdq hOK
 have HLN := hdq hlen
 have HX := hdq hx
 have HLE : Hid (b ≤ len ∧ len < 1099511627776 ∧ a + 1 = m ∧ m < b) := ⟨hle, hl, hm, by omega⟩
 have FIN : Hid (∀ i, Bs (fun k => cf d[k]! x < 0) m b i i → (R.take (i - m) ++ x :: R.drop (i - m)).Perm ([x] ++ R) ∧ SortedE cf (R.take (i - m) ++ x :: R.drop (i - m))) := hdq (fun i hB => by
  obtain ⟨h1, h2, h3, h4, h5⟩ := hB
  refine one_left hcf hR (by omega) ?_ ?_
  ·by_cases e : i = m
   ·exact Or.inl (by omega)
   ·have := h4 (i - 1) (by omega) (by omega)
    simp only at this
    rw [hr _ (by omega) (by omega)] at this
    exact Or.inr (by rw [show i - m - 1 = i - 1 - m by omega]; exact this)
  ·by_cases e : i = b
   ·exact Or.inl (by omega)
   ·have := h5 i (by omega) (by omega)
    simp only at this
    rw [hr _ (by omega) (by omega)] at this
    exact Or.inr this)
 have DD := hdq hd
 have LR := hdq hb
 have PA := hdq ha
 have ST := hdq hS
 have B0 : Hid (Bs (fun k => cf d[k]! x < 0) m b m b) := ⟨Nat.le_refl _, by omega, Nat.le_refl _, fun k h1 h2 => by omega, fun k h1 h2 => by omega⟩
 clear hcf hC hOK hlen hx hle hl hb ha hd hr hS hR h0
 have r0 : IntKind.i64.wrap ((m : Int) - (a : Int)) = 1 := by have := HLE.out; rw [IntKind.wrap_i64]; omega
 have s0 : wrap64 ((m : Int) - (a : Int)) = 1 := by have := HLE.out; clear r0; exact wr_i64 _ (by omega) (by omega) (by omega)
 clear hm
 go_enter Tryz.func100, Tryz.ntmps100
 go_wp2
 go_loopw [10, 11] (fun vi vj wr => ∃ i j : Nat, vi = .int .i64 i ∧ vj = .int .i64 j ∧ Hid (Bs (fun k => cf d[k]! x < 0) m b i j) ∧ Hid (SortW w0 blk tag sz d wr)) (fun vi vj _ => (intOf vj).toNat - (intOf vi).toNat)
 case atStart => exact ⟨m, b, rfl, rfl, B0, ST⟩
 case round =>
  obtain ⟨i, j, rfl, rfl, HB, HW⟩ := hrel
  clear ST B0 r0 s0
  by_cases hlt : i < j
  ·obtain ⟨z1, z2, z3, _, _⟩ := HB.out
   have hle := HLE.out
   obtain ⟨ij, hij⟩ : ∃ ij, ij = i + j := ⟨_, rfl⟩
   obtain ⟨h, hh⟩ : ∃ h, h = ij / 2 := ⟨_, rfl⟩
   have HD2 : Hid ((ij : Int) / 2 = (h : Int)) := hdq (by omega)
   have n1 : ij < 2199023255552 := by omega
   have n2 : h < 2199023255552 := by omega
   have HH : Hid (h = (i + j) / 2 ∧ m ≤ i ∧ i ≤ h ∧ h < j ∧ j ≤ b ∧ h < len) := ⟨by rw [hh, hij], z1, by omega, by omega, z3, by omega⟩
   obtain ⟨u, hu⟩ : ∃ u, u = d[h]! := ⟨_, rfl⟩
   have hal : a < len := by have := HH.out; have := HLE.out; omega
   have gu := E2.get! (dk := d) (i := h) (by have := HH.out; have := HLN.out; omega)
   have gx := E2.get! (dk := d) (i := a) (by have := HLN.out; omega)
   rw [← hu] at gu
   rw [HX.out] at gx
   have oku := HOK.out u (List.mem_of_getElem? gu)
   have okx := HOK.out x (List.mem_of_getElem? gx)
   obtain ⟨c1, c2, _, _⟩ := HW.out.cells gu
   obtain ⟨c3, c4, _, _⟩ := HW.out.cells gx
   have GU := hdq gu
   have GX := hdq gx
   obtain ⟨p, hp⟩ : ∃ p, p = cf u x := ⟨_, rfl⟩
   have HP := hdq (show p = cf d[h]! x by rw [hp, hu])
   obtain ⟨x0, x1⟩ := u
   obtain ⟨y0, y1⟩ := x
   simp only at c1 c2 c3 c4
   have HCC : Hid (∀ W : World, (W.cell? ⟨blk, h * 2, none⟩ = some x0 ∧ W.cell? ⟨blk, h * 2 + 1, none⟩ = some x1 ∧ W.cell? ⟨blk, a * 2, none⟩ = some y0 ∧ W.cell? ⟨blk, a * 2 + 1, none⟩ = some y1 ∧ Hid (SortW w0 blk tag sz d W)) → Calls Tryz.prog 44 #[.agg #[x0, x1], .agg #[y0, y1]] W fun e w' => e = .returned (.int .i64 p) ∧ (w'.cell? ⟨blk, h * 2, none⟩ = some x0 ∧ w'.cell? ⟨blk, h * 2 + 1, none⟩ = some x1 ∧ w'.cell? ⟨blk, a * 2, none⟩ = some y0 ∧ w'.cell? ⟨blk, a * 2 + 1, none⟩ = some y1 ∧ Hid (SortW w0 blk tag sz d w'))) := hdq (fun W hS => (HC.out (x0, x1) (y0, y1) W oku okx hS.2.2.2.2.out.2.1).mono (fun e w' h => by
    have h2 := hS.2.2.2.2.out.below h.2
    obtain ⟨q1, q2, _, _⟩ := h2.cells GU.out
    obtain ⟨q3, q4, _, _⟩ := h2.cells GX.out
    exact ⟨by rw [h.1, hp], q1, q2, q3, q4, hdq h2⟩))
   have ph : (0 : Int) ≤ (h : Int) := by omega
   have bh : (h : Int) < (len : Int) := by have := HH.out; omega
   have nh : h < len := HH.out.2.2.2.2.2
   have pa : (0 : Int) ≤ (a : Int) := by omega
   have ba : (a : Int) < (len : Int) := by omega
   clear hu gu gx oku okx hp
   by_cases hp0 : p < 0
   ·obtain ⟨h1, hh1⟩ : ∃ h1, h1 = h + 1 := ⟨_, rfl⟩
    have NB : Hid (Bs (fun k => cf d[k]! (y0, y1) < 0) m b h1 j) := hdq (hh1 ▸ HB.out.right MONO.out HH.out.1 hlt (by show cf d[h]! (y0, y1) < 0; rw [← HP.out]; exact hp0))
    have MS : Hid (j - h1 < j - i) := hdq (by have := HH.out; omega)
    have n3 : h1 < 2199023255552 := by omega
    have r5 := wrI_add (a := h) (b := 1) hh1.symm n3
    have s5 := wr_add (a := h) (b := 1) hh1.symm n3
    simp only [Int.natCast_one] at r5 s5
    clear hh1 n3 MONO FIN
    have q1 := wrU_nat n1
    have q2 := wrI_nat n2
    have r1 := wrI_add hij.symm n1
    have s1 := wr_add hij.symm n1
    clear hij hh n1 n2 z1 z2 z3 hle
    have hd2 : (ij : Int) / 2 = (h : Int) := HD2.out
    go_wp2
    go_region_held3 (fun W : World => W.cell? ⟨blk, h * 2, none⟩ = some x0 ∧ W.cell? ⟨blk, h * 2 + 1, none⟩ = some x1 ∧ W.cell? ⟨blk, a * 2, none⟩ = some y0 ∧ W.cell? ⟨blk, a * 2 + 1, none⟩ = some y1 ∧ Hid (SortW w0 blk tag sz d W)) (first | (exact ⟨by simpa using c1, by simpa using c2, by simpa using c3, by simpa using c4, hdq HW.out.drew⟩) | assumption) (first | (go_at_call 44; refine (HCC.out _ (by assumption)).mono ?_; rintro e wx ⟨rfl, hSx⟩))
    have HFIN := hdq hSx.2.2.2.2.out
    clear hSx c1 c2 c3 c4
    go_wp2
    go_roundw
    case rel => exact ⟨h1, j, rfl, rfl, NB, HFIN⟩
    case measure => simpa [intOf] using MS.out
   ·have NB : Hid (Bs (fun k => cf d[k]! (y0, y1) < 0) m b i h) := hdq (HB.out.left MONO.out HH.out.1 hlt (by show ¬ cf d[h]! (y0, y1) < 0; rw [← HP.out]; exact hp0))
    have MS : Hid (h - i < j - i) := hdq (by have := HH.out; omega)
    have HP1 := hdq hp0
    clear hp0 MONO FIN
    have q1 := wrU_nat n1
    have q2 := wrI_nat n2
    have r1 := wrI_add hij.symm n1
    have s1 := wr_add hij.symm n1
    clear hij hh n1 n2 z1 z2 z3 hle
    have hd2 : (ij : Int) / 2 = (h : Int) := HD2.out
    go_wp2
    go_region_held3 (fun W : World => W.cell? ⟨blk, h * 2, none⟩ = some x0 ∧ W.cell? ⟨blk, h * 2 + 1, none⟩ = some x1 ∧ W.cell? ⟨blk, a * 2, none⟩ = some y0 ∧ W.cell? ⟨blk, a * 2 + 1, none⟩ = some y1 ∧ Hid (SortW w0 blk tag sz d W)) (first | (exact ⟨by simpa using c1, by simpa using c2, by simpa using c3, by simpa using c4, hdq HW.out.drew⟩) | assumption) (first | (go_at_call 44; refine (HCC.out _ (by assumption)).mono ?_; rintro e wx ⟨rfl, hSx⟩))
    have HFIN := hdq hSx.2.2.2.2.out
    clear hSx c1 c2 c3 c4
    have hd0 : decide (p < 0) = false := decide_eq_false (Int.not_lt.2 HP1.out)
    rw [hd0]
    clear hd0
    go_wp2
    go_roundw
    case rel => exact ⟨i, h, rfl, rfl, NB, HFIN⟩
    case measure => simpa [intOf] using MS.out
  ·obtain rfl : i = j := by obtain ⟨_, h1, _⟩ := HB.out; omega
   have FI := hdq (FIN.out i HB.out)
   obtain ⟨i1, hi1⟩ : ∃ i1, i1 + 1 = i := ⟨i - 1, by have := HLE.out; have := HB.out.1; omega⟩
   have HI : Hid (m ≤ i ∧ i ≤ b ∧ i1 + 1 = i) := ⟨HB.out.1, HB.out.2.2.1, hi1⟩
   have ni : i < 2199023255552 := by have := HLE.out; have := HI.out; omega
   have ST2 : Hid (SortW w0 blk tag sz (mv P R S x 0) wr) := hdq (by have := HW.out; rw [DD.out] at this; exact this)
   have NL : Hid (P.length + (R.length + S.length + 1) = len) := hdq (by have := HLN.out; rw [DD.out] at this; simp only [List.length_append, List.length_cons] at this; omega)
   have r0 := wrI_sub (a := i) (b := 1) hi1 ni
   have s0 := wr_sub (a := i) (b := 1) hi1 ni
   simp only [Int.natCast_one] at r0 s0
   clear FIN HB HW MONO DD HLN HX HOK HC HCF hi1 ni
   go_wp2
   go_loopw [13] (fun vk wr2 => ∃ k n : Nat, vk = .int .i64 k ∧ Hid (k = a + n ∧ k ≤ i1) ∧ Hid (SortW w0 blk tag sz (mv P R S x n) wr2)) (fun vk _ => i1 - (intOf vk).toNat)
   case atStart => exact ⟨a, 0, rfl, hdq ⟨rfl, by have := HI.out; have := HLE.out; omega⟩, ST2⟩
   case round =>
    obtain ⟨k, n, rfl, HK, HW2⟩ := hrel
    clear ST2
    by_cases hlt2 : k < i1
    ·have hle := HLE.out
     have hb := LR.out
     have hk := HK.out.1
     have hn : n < R.length := by have := HI.out; omega
     obtain ⟨k1, hk1⟩ : ∃ k1, k1 = k + 1 := ⟨_, rfl⟩
     obtain ⟨dk, hdk⟩ : ∃ dk, dk = mv P R S x n := ⟨_, rfl⟩
     have hW := HW2.out
     rw [← hdk] at hW
     have hdl : dk.length = len := by rw [hdk, mv_length, NL.out]
     have hkl : k1 < len := by have := HI.out; omega
     have hnx : swpE dk k k1 = mv P R S x (n + 1) := by
      rw [hdk, hk1, hk, ← PA.out]; exact mv_up hn
     obtain ⟨y, hy⟩ : ∃ y, y = dk[k]! := ⟨_, rfl⟩
     obtain ⟨z, hz⟩ : ∃ z, z = dk[k1]! := ⟨_, rfl⟩
     have gy := E2.get! (dk := dk) (i := k) (by omega)
     have gz := E2.get! (dk := dk) (i := k1) (by omega)
     rw [← hy] at gy
     rw [← hz] at gz
     obtain ⟨c1, c2, f1, f2⟩ := hW.cells gy
     obtain ⟨c3, c4, f3, f4⟩ := hW.cells gz
     have o1 := hW.one gy
     have o2 := hW.one gz
     have HSW := hdq (hW.swap (i := k) (j := k1) (by omega) (by omega)).drew
     rw [← hy, ← hz, hnx] at HSW
     obtain ⟨x0, x1⟩ := y
     obtain ⟨y0, y1⟩ := z
     simp only at c1 c2 c3 c4 f1 f2 f3 f4 o1 o2 HSW
     have sx0 : ∀ (W : World) (p : Addr) (m : Mode), (store p x0 m).run Tryz.prog W = stored Tryz.prog W p x0 m := fun W p m => run_store Tryz.prog W p x0 m o1.1
     have sx1 : ∀ (W : World) (p : Addr) (m : Mode), (store p x1 m).run Tryz.prog W = stored Tryz.prog W p x1 m := fun W p m => run_store Tryz.prog W p x1 m o1.2
     have sy0 : ∀ (W : World) (p : Addr) (m : Mode), (store p y0 m).run Tryz.prog W = stored Tryz.prog W p y0 m := fun W p m => run_store Tryz.prog W p y0 m o2.1
     have sy1 : ∀ (W : World) (p : Addr) (m : Mode), (store p y1 m).run Tryz.prog W = stored Tryz.prog W p y1 m := fun W p m => run_store Tryz.prog W p y1 m o2.2
     have pk : (0 : Int) ≤ (k : Int) := by omega
     have bk : (k : Int) < (len : Int) := by omega
     have nk : k < len := by omega
     have pk1 : (0 : Int) ≤ (k1 : Int) := by omega
     have bk1 : (k1 : Int) < (len : Int) := by omega
     have ne1 : ¬ k * 2 = k1 * 2 := by omega
     have ne2 : ¬ k * 2 + 1 = k1 * 2 := by omega
     have ne3 : ¬ k * 2 = k1 * 2 + 1 := by omega
     have ne4 : ¬ k * 2 + 1 = k1 * 2 + 1 := by omega
     have KN : Hid (k1 = a + (n + 1) ∧ k1 ≤ i1) := hdq ⟨by omega, by omega⟩
     have MS : Hid (i1 - k1 < i1 - k) := hdq (by omega)
     have n1 : k1 < 2199023255552 := by omega
     have n2 : k1 = k + 1 := hk1
     have LT : Hid (k < i1) := hdq hlt2
     clear hle hb hk hn hk1 hdk hW hdl hnx hy hz gy gz o1 o2 HW2
     have r1 := wrI_add (a := k) (b := 1) n2.symm n1
     have s1 := wr_add (a := k) (b := 1) n2.symm n1
     simp only [Int.natCast_one] at r1 s1
     clear n2 n1
     go_wp2_with fail
     go_big_region
     go_wp2
     go_roundw
     case rel => exact ⟨k1, n + 1, rfl, KN, HSW⟩
     case measure => simpa [intOf] using MS.out
    ·have hk : n = i - m := by have := HI.out; have := HK.out; have := HLE.out; omega
     have HE := HW2.out
     rw [hk, mv_eq] at HE
     have FN := hdq (And.intro FI.out.1 (And.intro FI.out.2 HE))
     clear HE
     have HK2 := hdq hk
     clear hk
     go_wp2
     (try simp only [Exit.inBlock, Exit.then])
     refine bodyPost_ret (results_none rfl _ _ _) rfl ?_
     exact ⟨rfl, _, FN.out⟩
end Go.Proofs.YtgmolmpfihkolaaGreat
