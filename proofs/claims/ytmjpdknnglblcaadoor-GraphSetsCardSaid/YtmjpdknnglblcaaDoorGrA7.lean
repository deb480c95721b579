/- The walk of tabularylaw33.GraphSets. -/
import Derived.Test.YtmjpdknnglblcaaDoorGrA6
import Derived.Laws.AppendOwnNone
namespace Go.Proofs.YtmjpdknnglblcaaDoor
open Go.RowKit
open Gr Go.Deep
set_option maxRecDepth 100000

theorem RowX.edges {w : World} {a : Option Addr} {len cap : Nat} {zs : List Nat} (h : RowX w a len cap 1 (zs.map U32)) (hz : ∀ x ∈ zs, x < 4294967296) : EdgesAt w a len cap (zs.take 12) := by
  obtain ⟨h1, h2, h3, h4⟩ := h
  rw [List.length_map, Nat.one_mul] at h1
  refine ⟨h2, h3, by rw [List.length_take, h1]; omega, fun x hx => hz x (List.mem_of_mem_take hx), ?_⟩
  rcases h4 with h4 | ⟨b, off, e, hl, hc⟩
  · exact .inl h4
  · refine .inr ⟨b, off, e, fun i hi => ?_⟩
    rw [List.length_take] at hi
    have := hc i _ (U32_at zs i (by omega))
    rw [this]
    congr 3
    simp [List.getD, show i < 12 by omega]

theorem compsL_len (n : Nat) (A : Nat → Nat → Bool) (s : Nat) : ((compsL n A s).map U32).length = 1 * (compsL n A s).length := by rw [List.length_map, Nat.one_mul]
theorem setsL_len (n : Nat) (A : Nat → Nat → Bool) : ((setsL n A).map U32).length = 1 * (setsL n A).length := by rw [List.length_map, Nat.one_mul]
theorem flatP_len (l : List (Nat × Nat)) : (flatP l).length = 2 * l.length := by
  induction l with
  | nil => rfl
  | cons p l ih => simp only [flatP, List.flatMap_cons, List.length_append, List.length_cons, List.length_nil] at ih ⊢; omega

/-- append of a row that came in, onto one that the call owns. -/
theorem append_row {w : World} {ops : Array Oper} {rest : List Oper} {o : Oper} {act : Act} {Q : Exit → Act → World → Prop} (hgd : o.guard = none) (sl x : Operand)
    (ho : o.op = .call { callee := .builtin .append, args := #[sl, x], argTypes := #[22, 22] })
    (base : Nat) (v : Value) (n : Nat) (xs : List Value) (hs : act.eval sl = v) (hown : w.ownsRow base 23 1 v n xs)
    (a : Option Addr) (len cap : Nat) (zs : List Nat) (hx : act.eval x = .slice a len cap) (hnone : a = none → len = 0 ∧ cap = 0) (hR : RowX w a len cap 1 (zs.map U32)) (h63 : n + len ≤ 1000) (hbase : base ≤ w.heap.size)
    (h : ∀ v' w', w'.ownsRow base 23 1 v' (n + len) (xs ++ zs.map U32) → Below base w w' → wpList Tryd.prog ops Q rest (act.put o.dst v') w') : wpList Tryd.prog ops Q (o :: rest) act w := by
  obtain ⟨i0, hi, hz0, hz1, hz2⟩ := info_parts info23
  have hlen := hR.1
  rw [Nat.one_mul] at hlen
  cases a with
  | none =>
    obtain ⟨rfl, rfl⟩ := hnone rfl
    have : zs.map U32 = [] := List.eq_nil_of_length_eq_zero hlen
    rw [this, List.append_nil, Nat.add_zero] at h
    exact wpList_append_own_none hgd sl x 22 ho base 23 i0 1 Tryd.underlying22 hi v n xs hs hown hx (h v w hown (Below.refl _ _))
  | some ad =>
    have hcells : ∀ (j : Nat) u, (zs.map U32)[j]? = some u → w.cell? (ad.add j) = some u := by
      intro j u hj
      rcases hR.2.2.2 with h0 | ⟨b, off, e, hl, hc⟩
      · rw [h0] at hlen
        have := (List.getElem?_eq_some_iff.1 hj).1
        omega
      · cases e
        rw [← hc j u hj]
        by_cases hj0 : j = 0
        · subst hj0; rw [Addr.add, if_pos rfl, Nat.add_zero]
        · rw [Addr.add, if_neg hj0]
    refine wpList_append_own _ hgd sl x 22 ho base 23 i0 (.int .u32 0) 1 4 Tryd.underlying22 hi hz0 hz1 hz2 rfl (by decide) v n xs hs hown ad len cap (zs.map U32) hx (by rw [hlen, Nat.mul_one]) hcells ?_ (by unfold maxLen; omega) (by omega) hbase ?_
    · intro u hu
      obtain ⟨z, _, rfl⟩ := List.mem_map.1 hu
      rfl
    · intro v' w' hown' hgrow _
      exact h v' w' hown' ((Below.refl _ w).grown hgrow hbase (fun j hj => ownsRow_block hown j hj))

set_option maxHeartbeats 4000000 in
theorem GraphSets_any (a : Option Addr) (len cap s : Nat) (zs : List Nat) (w : World) (hR : RowX w a len cap 1 (zs.map U32)) (hz : ∀ x ∈ zs, x < 4294967296) (hnone : a = none → len = 0 ∧ cap = 0) (hT : TabAt w) (hs : s < 4294967296) :
    Calls Tryd.prog 4 #[.slice a len cap, .int .u32 s] w fun e w' => e = .returned (.bool true) ∧ Below w.heap.size w w' := by
  have hl63 : len < 2 ^ 63 := by have := hR.2.1; have := hR.2.2.1; unfold maxLen at this; omega
  have hlen := hR.1
  rw [List.length_map, Nat.one_mul] at hlen
  by_cases hl : (40 : Int) < (len : Int)
  · go_enter Tryd.func4, Tryd.ntmps4
    go_wp2
    go_ret
    exact ⟨rfl, Below.refl _ _⟩
  · have hEd := hR.edges hz
    have HR := Lib.hid hR
    have HN := Lib.hid hnone
    have HW := Lib.hid (fun W hb => works_any W (hT.later hb))
    have C11 := Lib.hid (fun W hb => RNear_any a len cap s _ W (hEd.later hb) hs)
    have C12 := Lib.hid (fun W hb => RConn_any a len cap s _ W (hEd.later hb) hs)
    have C15 := Lib.hid (fun W hb => RComponents_any a len cap s _ W (hEd.later hb) hs)
    have C17 := Lib.hid (fun W hb => RSets_any a len cap _ W (hEd.later hb))
    have C19 := Lib.hid (fun W hb => RSplits_any a len cap s _ W (hEd.later hb) hs)
    have D10 := Lib.hid (fun W hb ad cap' (h : EdgesAt W ad len cap' (zs.take 12)) => Near_any ad len cap' s _ W h (hT.later hb) hs)
    have D9 := Lib.hid (fun W hb ad cap' (h : EdgesAt W ad len cap' (zs.take 12)) => Connected_any ad len cap' s _ W h (hT.later hb) hs)
    have D14 := Lib.hid (fun W hb ad cap' (h : EdgesAt W ad len cap' (zs.take 12)) => Components_any ad len cap' s _ W h (hT.later hb) hs)
    have D16 := Lib.hid (fun W hb ad cap' (h : EdgesAt W ad len cap' (zs.take 12)) => Sets_any ad len cap' _ W h (hT.later hb))
    have D8 := Lib.hid (fun W hb ad cap' (h : EdgesAt W ad len cap' (zs.take 12)) => Splits_any ad len cap' s _ W h (hT.later hb) hs)
    have HE := Lib.hid (fun W ad cap' (h : RowX W ad len cap' 1 (zs.map U32)) => h.edges hz)
    have hesl : (zs.take 12).length ≤ len := by rw [List.length_take]; omega
    obtain ⟨es, hes⟩ : ∃ es, es = zs.take 12 := ⟨_, rfl⟩
    rw [← hes] at C11 C12 C15 C17 C19 D10 D9 D14 D16 D8 HE hesl
    clear hR hz hnone hT hes hEd
    have hl' : ((len : Int) ≤ 40) := by omega
    obtain ⟨n, hn'⟩ : ∃ n, n = es.length := ⟨_, rfl⟩
    rw [← hn'] at C11 C12 C15 C17 C19 D10 D9 D14 D16 D8 hesl
    generalize adj es n = A at *
    obtain ⟨nb, hnb⟩ : ∃ z, z = nearB n A s := ⟨_, rfl⟩
    obtain ⟨cn, hcn⟩ : ∃ z, z = connB n A s := ⟨_, rfl⟩
    obtain ⟨cl, hcl⟩ : ∃ z, z = compsL n A (s % 2 ^ n) := ⟨_, rfl⟩
    obtain ⟨sl, hsl⟩ : ∃ z, z = setsL n A := ⟨_, rfl⟩
    obtain ⟨pl, hpl⟩ : ∃ z, z = splitsL n A s := ⟨_, rfl⟩
    rw [← hnb] at C11 D10
    rw [← hcn] at C12 D9
    rw [← hcl] at C15 D14
    rw [← hsl] at C17 D16
    rw [← hpl] at C19 D8
    clear hl hnb hcn hcl hsl hpl hn'
    by_cases h8 : (len : Int) ≤ 8
    · have hn8 : n ≤ 8 := by omega
      go_enter Tryd.func4, Tryd.ntmps4
      go_wp2_with (first | (at_builtin; refine append_row rfl _ _ rfl w.heap.size _ 0 [] rfl (World.ownsRow_lit w #[] 0 (Nat.le_refl _) (by unfold maxLen; omega) rfl) a len cap zs rfl HN.out (HR.out.below ((Below.refl _ w).alloc (Nat.le_refl _) _)) (by omega) (by simp) ?_; intro v w2 hown hb; rw [Nat.zero_add, List.nil_append] at hown; obtain ⟨ad, cap', rfl, hro⟩ := RowX.of_own hown (by rw [List.length_map, hlen, Nat.one_mul]); have HB2 := Lib.hid (((Below.refl _ w).alloc (Nat.le_refl _) _).trans hb); have RO := Lib.hid hro; clear hown hb hro) | (go_at_call 10; refine (D10.out _ HB2.out _ _ (HE.out _ _ _ RO.out)).mono ?_; rintro e w3 ⟨rfl, hb⟩; have HB3 := Lib.hid (HB2.out.trans (hb.mono HB2.out.size)); have RO3 := Lib.hid (RO.out.below hb); clear hb) | (go_at_call 11; refine (C11.out _ HB3.out).mono ?_; rintro e w' ⟨rfl, rfl⟩) | (go_at_call 9; refine (D9.out _ HB3.out _ _ (HE.out _ _ _ RO3.out)).mono ?_; rintro e w4 ⟨rfl, hb⟩; have HB4 := Lib.hid (HB3.out.trans (hb.mono HB3.out.size)); have RO4 := Lib.hid (RO3.out.below hb); clear hb) | (go_at_call 12; refine (C12.out _ HB4.out).mono ?_; rintro e w' ⟨rfl, rfl⟩) | (go_at_call 14; refine (D14.out _ HB4.out _ _ (HE.out _ _ _ RO4.out)).mono ?_; rintro e w5 ⟨v, rfl, hown, hb⟩; obtain ⟨a5, cap5, rfl, hc5⟩ := RowX.of_own hown (by rw [List.length_map, Nat.one_mul]); have HB5 := Lib.hid (HB4.out.trans (hb.mono HB4.out.size)); have RO5 := Lib.hid (RO4.out.below hb); have CC5 := Lib.hid hc5; clear hb hown hc5) | (go_at_call 15; refine (C15.out _ HB5.out).mono ?_; rintro e w6 ⟨v, rfl, hown, hb⟩; obtain ⟨a6, cap6, rfl, hc6⟩ := RowX.of_own hown (by rw [List.length_map, Nat.one_mul]); have HB6 := Lib.hid (HB5.out.trans (hb.mono HB5.out.size)); have RO6 := Lib.hid (RO5.out.below hb); have CC6 := CC5.out.below hb; clear hb hown) | (go_at_call 13; refine (Same_eq _ _ _ _ _ _ _ (by assumption) (by assumption)).mono ?_; first | (rintro e w7 ⟨rfl, hb⟩; have HB7 := Lib.hid (HB6.out.trans (hb.mono HB6.out.size)); have RO7 := Lib.hid (RO6.out.below hb); clear hb) | (rintro e w10 ⟨rfl, hb⟩; have HB10 := Lib.hid (HB9.out.trans (hb.mono HB9.out.size)); have RO10 := Lib.hid (RO9.out.below hb); clear hb) | (rintro e w14 ⟨rfl, hb⟩; have HB14 := Lib.hid (HB13.out.trans (hb.mono HB13.out.size)); clear hb)) | (go_at_call 16; refine (D16.out _ HB7.out _ _ (HE.out _ _ _ RO7.out)).mono ?_; rintro e w8 ⟨v, rfl, hown, hb⟩; obtain ⟨a8, cap8, rfl, hc8⟩ := RowX.of_own hown (by rw [List.length_map, Nat.one_mul]); have HB8 := Lib.hid (HB7.out.trans (hb.mono HB7.out.size)); have RO8 := Lib.hid (RO7.out.below hb); have CC8 := Lib.hid hc8; clear hb hown hc8) | (go_at_call 17; refine (C17.out _ HB8.out).mono ?_; rintro e w9 ⟨v, rfl, hown, hb⟩; obtain ⟨a9, cap9, rfl, hc9⟩ := RowX.of_own hown (by rw [List.length_map, Nat.one_mul]); have HB9 := Lib.hid (HB8.out.trans (hb.mono HB8.out.size)); have RO9 := Lib.hid (RO8.out.below hb); have CC9 := CC8.out.below hb; clear hb hown) | (go_at_call 8; refine (D8.out _ HB10.out _ _ (HE.out _ _ _ RO10.out) hn8).mono ?_; rintro e w11 ⟨v, rfl, hown, hb⟩; obtain ⟨a11, cap11, rfl, hc11⟩ := RowX.of_own hown (flatP_len _); have HB11 := Lib.hid (HB10.out.trans (hb.mono HB10.out.size)); have RO11 := Lib.hid (RO10.out.below hb); have CC11 := Lib.hid hc11; clear hb hown hc11) | (go_at_call 19; refine (C19.out _ HB11.out hn8).mono ?_; rintro e w12 ⟨v, rfl, hown, hb⟩; obtain ⟨a12, cap12, rfl, hc12⟩ := RowX.of_own hown (flatP_len _); have HB12 := Lib.hid (HB11.out.trans (hb.mono HB11.out.size)); have RO12 := Lib.hid (RO11.out.below hb); have CC12 := CC11.out.below hb; clear hb hown) | (go_at_call 18; refine (Pairs_eq _ _ _ _ _ pl _ rfl (by assumption) (by assumption)).mono ?_; rintro e w13 ⟨rfl, hb⟩; have HB13 := Lib.hid (HB12.out.trans (hb.mono HB12.out.size)); have RO13 := RO12.out.below hb; have RE13 := HR.out.below (HB13.out); clear hb) | (go_at_call 7; refine (HW.out _ HB14.out).mono ?_; rintro e w15 ⟨rfl, hb⟩; have HB15 := Lib.hid (HB14.out.trans (hb.mono HB14.out.size)); clear hb))
      go_ret
      exact ⟨rfl, HB15.out⟩
    · go_enter Tryd.func4, Tryd.ntmps4
      go_wp2_with (first | (at_builtin; refine append_row rfl _ _ rfl w.heap.size _ 0 [] rfl (World.ownsRow_lit w #[] 0 (Nat.le_refl _) (by unfold maxLen; omega) rfl) a len cap zs rfl HN.out (HR.out.below ((Below.refl _ w).alloc (Nat.le_refl _) _)) (by omega) (by simp) ?_; intro v w2 hown hb; rw [Nat.zero_add, List.nil_append] at hown; obtain ⟨ad, cap', rfl, hro⟩ := RowX.of_own hown (by rw [List.length_map, hlen, Nat.one_mul]); have HB2 := Lib.hid (((Below.refl _ w).alloc (Nat.le_refl _) _).trans hb); have RO := Lib.hid hro; clear hown hb hro) | (go_at_call 10; refine (D10.out _ HB2.out _ _ (HE.out _ _ _ RO.out)).mono ?_; rintro e w3 ⟨rfl, hb⟩; have HB3 := Lib.hid (HB2.out.trans (hb.mono HB2.out.size)); have RO3 := Lib.hid (RO.out.below hb); clear hb) | (go_at_call 11; refine (C11.out _ HB3.out).mono ?_; rintro e w' ⟨rfl, rfl⟩) | (go_at_call 9; refine (D9.out _ HB3.out _ _ (HE.out _ _ _ RO3.out)).mono ?_; rintro e w4 ⟨rfl, hb⟩; have HB4 := Lib.hid (HB3.out.trans (hb.mono HB3.out.size)); have RO4 := Lib.hid (RO3.out.below hb); clear hb) | (go_at_call 12; refine (C12.out _ HB4.out).mono ?_; rintro e w' ⟨rfl, rfl⟩) | (go_at_call 14; refine (D14.out _ HB4.out _ _ (HE.out _ _ _ RO4.out)).mono ?_; rintro e w5 ⟨v, rfl, hown, hb⟩; obtain ⟨a5, cap5, rfl, hc5⟩ := RowX.of_own hown (by rw [List.length_map, Nat.one_mul]); have HB5 := Lib.hid (HB4.out.trans (hb.mono HB4.out.size)); have RO5 := Lib.hid (RO4.out.below hb); have CC5 := Lib.hid hc5; clear hb hown hc5) | (go_at_call 15; refine (C15.out _ HB5.out).mono ?_; rintro e w6 ⟨v, rfl, hown, hb⟩; obtain ⟨a6, cap6, rfl, hc6⟩ := RowX.of_own hown (by rw [List.length_map, Nat.one_mul]); have HB6 := Lib.hid (HB5.out.trans (hb.mono HB5.out.size)); have RO6 := Lib.hid (RO5.out.below hb); have CC6 := CC5.out.below hb; clear hb hown) | (go_at_call 13; refine (Same_eq _ _ _ _ _ _ _ (by assumption) (by assumption)).mono ?_; first | (rintro e w7 ⟨rfl, hb⟩; have HB7 := Lib.hid (HB6.out.trans (hb.mono HB6.out.size)); have RO7 := RO6.out.below hb; have RE7 := HR.out.below (HB7.out); clear hb) | (rintro e w8 ⟨rfl, hb⟩; have HB8 := Lib.hid (HB7.out.trans (hb.mono HB7.out.size)); clear hb)) | (go_at_call 7; refine (HW.out _ HB8.out).mono ?_; rintro e w9 ⟨rfl, hb⟩; have HB9 := Lib.hid (HB8.out.trans (hb.mono HB8.out.size)); clear hb))
      go_ret
      exact ⟨rfl, HB9.out⟩
end Go.Proofs.YtmjpdknnglblcaaDoor
