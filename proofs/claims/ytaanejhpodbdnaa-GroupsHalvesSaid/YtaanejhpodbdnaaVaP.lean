/- The walk of the reference's Fold: sums. -/
import Derived.Test.YtaanejhpodbdnaaVaO
namespace Go.Proofs.Ytaanejhpodbdnaa
open Go.RowKit
set_option maxRecDepth 100000
set_option linter.unusedVariables false
attribute [local go_sem] run_store_float

set_option maxHeartbeats 4000000 in
theorem RFold_2 (a : Option Addr) (len cap : Nat) (l : List Val) (w : World) (h : RowV w a len cap l) : Calls Try.prog 9 #[.int .i64 2, .slice a len cap] w
    fun e w' => e = .returned (.tuple #[(rgo 2 0 Val.null l).1.agg, .int .i64 (rgo 2 0 Val.null l).2]) ∧ Below w.heap.size w w' := by
  have h63 : len < 2 ^ 63 := by have := h.2.1; have := h.2.2.1; unfold maxLen at this; omega
  have HR := Lib.hid h
  have HLEN := Lib.hid h.1
  have HG0 := Lib.hid (RG.start w 28 28)
  clear h
  go_enter Try.func9, Try.ntmps9
  go_wp2
  go_loopw [7, 8] (fun n i wr => ∃ (k : Nat) (m : Int) (h : Val), i = .int .i64 k ∧ k ≤ len ∧ n = .int .i64 m ∧ rgo 2 m h (l.drop k) = rgo 2 0 Val.null l ∧ AddI h ∧ RG w h wr) (fun _ i _ => len - (intOf i).toNat)
  case atStart => exact ⟨0, 0, Val.null, rfl, Nat.zero_le _, rfl, rfl, .inl rfl, HG0.out⟩
  case round =>
    obtain ⟨k, m, h, rfl, hk, rfl, hgo, hinv, hg⟩ := hrel
    have HG := Lib.hid hg
    have HI := Lib.hid hinv
    by_cases hlt : k < len
    · obtain ⟨b, off, rfl, x, hx, hwf, ⟨d1, d2, d3, d4⟩, hdr⟩ := fold_row HR.out hg.below hlt
      rw [hdr, rgo_cons] at hgo
      have hpw := rplainV_wf x hwf
      obtain ⟨p, hp⟩ : ∃ p, p = rplainV x := ⟨_, rfl⟩
      rw [← hp] at hgo hpw
      have HP := Lib.hid hp.symm
      obtain ⟨xk, xn, xf, xs⟩ := x
      obtain ⟨pk, pn, pf, ps⟩ := p
      simp only at *
      clear hx hdr hp hg
      by_cases h0 : pk = 0
      · subst h0
        rw [if_pos rfl] at hgo
        have HGO := Lib.hid hgo
        clear hgo hinv
        go_wp2_with (go_at_call 22; refine (RPlain_exp _ _ _ _ (by assumption) _).mono ?_; rw [HP.out]; rintro e w5 ⟨rfl, hb5⟩; have H5 := Lib.hid ((HG.out.next hb5).box ⟨0, pn, pf, ps⟩ 28); obtain ⟨⟨h1, h2, h3, h4⟩, gh1, gh2, gh3, gh4⟩ := H5.out.hv; obtain ⟨⟨v1, v2, v3, v4⟩, _⟩ := H5.out.vv; simp only [Nat.zero_add] at h1 h2 h3 h4 gh1 gh2 gh3 gh4 v1 v2 v3 v4; obtain ⟨⟨a1, a2, a3, a4⟩, fa1, fa2, fa3, fa4⟩ := (HG.out.next hb5).hv; simp only [Nat.zero_add] at a1 a2 a3 a4 fa1 fa2 fa3 fa4; have hl5 := H5.out.gt; have hn5 := Nat.ne_of_lt hl5; have hl0 : w.heap.size < w5.heap.size := Nat.lt_trans (Nat.lt_succ_self _) hl5; have hn0 := Nat.ne_of_lt hl0; clear hb5)
        refine ⟨⟨k + 1, m, h, by go_num, by omega, rfl, HGO.out, HI.out, H5.out.g⟩, ?_⟩
        simp [intOf]; omega
      · rw [if_neg h0] at hgo
        have h0z : ((pk : Int) == 0) = false := by simp; exact h0
        rw [if_pos trivial] at hgo
        rcases hinv with rfl | ⟨m0, rfl, hm0⟩
        · unfold Val.null at *
          simp only at *
          have hw0 : (Lit.int .i64 0).wf = true := by decide
          rw [if_pos trivial] at hgo
          have hqq : ∃ q, q = calcAdd 0 ⟨pk, pn, pf, ps⟩ := ⟨_, rfl⟩
          obtain ⟨⟨⟨qk, qn, qf, qs⟩, qe⟩, hq⟩ := hqq
          rw [← hq] at hgo
          have HQ := Lib.hid hq.symm
          have hqi : qe = 0 → AddI ⟨qk, qn, qf, qs⟩ := fun h0 => by
            have := addV_inv ⟨0, 0, 0, ⟨#[]⟩⟩ ⟨pk, pn, pf, ps⟩ (.inl rfl)
            unfold addV at this
            rw [show (if (⟨0, 0, 0, ⟨#[]⟩⟩ : Val).kind = 0 then (0 : Int) else (⟨0, 0, 0, ⟨#[]⟩⟩ : Val).int) = 0 from if_pos rfl, ← hq] at this
            exact this h0
          simp only at hgo
          clear hq
          by_cases he : qe = 0
          · subst he
            rw [if_pos rfl] at hgo
            have HQI := Lib.hid (hqi rfl)
            have hqw := HQI.out.wf
            have HGO := Lib.hid hgo
            clear hgo hqi h0
            go_wp2_with (first | (go_at_call 22; refine (RPlain_exp _ _ _ _ (by assumption) _).mono ?_; rw [HP.out]; rintro e w5 ⟨rfl, hb5⟩; have H5 := Lib.hid ((HG.out.next hb5).box ⟨pk, pn, pf, ps⟩ 28); obtain ⟨⟨h1, h2, h3, h4⟩, gh1, gh2, gh3, gh4⟩ := H5.out.hv; obtain ⟨⟨v1, v2, v3, v4⟩, _⟩ := H5.out.vv; simp only [Nat.zero_add] at h1 h2 h3 h4 gh1 gh2 gh3 gh4 v1 v2 v3 v4; obtain ⟨⟨a1, a2, a3, a4⟩, fa1, fa2, fa3, fa4⟩ := (HG.out.next hb5).hv; simp only [Nat.zero_add] at a1 a2 a3 a4 fa1 fa2 fa3 fa4; have hl5 := H5.out.gt; have hn5 := Nat.ne_of_lt hl5; have hl0 : w.heap.size < w5.heap.size := Nat.lt_trans (Nat.lt_succ_self _) hl5; have hn0 := Nat.ne_of_lt hl0; clear hb5) | (go_at_call 23; refine (RCalcAdd_exp _ _ _ _ _ (by assumption) (by assumption) _).mono ?_; rw [HQ.out]; rintro e w6 ⟨rfl, hb6⟩; have H6 := Lib.hid ((H5.out.setKa 2).next hb6); obtain ⟨⟨h1, h2, h3, h4⟩, gh1, gh2, gh3, gh4⟩ := H6.out.hv; obtain ⟨⟨v1, v2, v3, v4⟩, _⟩ := H6.out.vv; simp only [Nat.zero_add] at h1 h2 h3 h4 gh1 gh2 gh3 gh4 v1 v2 v3 v4; obtain ⟨⟨r1, r2, r3, r4⟩, g1, g2, g3, g4⟩ := H6.out.res; unfold Val.null at r1 r2 r3 r4; simp only [Nat.zero_add] at r1 r2 r3 r4 g1 g2 g3 g4; have hlx := H6.out.ltH; have hlv := H6.out.lt; have hnx := Nat.ne_of_lt hlx; have hnv := Nat.ne_of_lt hlv; have hlr := H6.out.ltR; have hnr := Nat.ne_of_lt hlr; clear hb6) | (go_at_call 24; refine (RCmp_exp _ _ _ _ _ _ _ _ (by assumption) (by assumption) _).mono ?_; rintro e w7 ⟨rfl, hb7⟩; (first | (have H7 := Lib.hid (((H6.out.next ((Below.refl _ _).alloc (Nat.le_refl _) (.cells #[.int .i64 qk, .int .i64 qn, .float .f64 qf, .string qs] 28))).setH ⟨qk, qn, qf, qs⟩).next hb7)) | (have H7 := Lib.hid (((H6.out.setH ⟨qk, qn, qf, qs⟩).next ((Below.refl _ _).alloc (Nat.le_refl _) (.cells #[.int .i64 qk, .int .i64 qn, .float .f64 qf, .string qs] 28))).next hb7))); clear hb7))
            refine ⟨⟨k + 1, _, ⟨qk, qn, qf, qs⟩, by go_num, by omega, rfl, HGO.out, HQI.out, H7.out.g⟩, ?_⟩
            simp [intOf]; omega
          · have hen : ((qe : Int) != 0) = true := by simp; exact he
            rw [if_neg he] at hgo
            have HGO := Lib.hid hgo
            clear hgo hqi h0 he
            go_wp2_with (first | (go_at_call 22; refine (RPlain_exp _ _ _ _ (by assumption) _).mono ?_; rw [HP.out]; rintro e w5 ⟨rfl, hb5⟩; have H5 := Lib.hid ((HG.out.next hb5).box ⟨pk, pn, pf, ps⟩ 28); obtain ⟨⟨h1, h2, h3, h4⟩, gh1, gh2, gh3, gh4⟩ := H5.out.hv; obtain ⟨⟨v1, v2, v3, v4⟩, _⟩ := H5.out.vv; simp only [Nat.zero_add] at h1 h2 h3 h4 gh1 gh2 gh3 gh4 v1 v2 v3 v4; obtain ⟨⟨a1, a2, a3, a4⟩, fa1, fa2, fa3, fa4⟩ := (HG.out.next hb5).hv; simp only [Nat.zero_add] at a1 a2 a3 a4 fa1 fa2 fa3 fa4; have hl5 := H5.out.gt; have hn5 := Nat.ne_of_lt hl5; have hl0 : w.heap.size < w5.heap.size := Nat.lt_trans (Nat.lt_succ_self _) hl5; have hn0 := Nat.ne_of_lt hl0; clear hb5) | (go_at_call 23; refine (RCalcAdd_exp _ _ _ _ _ (by assumption) (by assumption) _).mono ?_; rw [HQ.out]; rintro e w6 ⟨rfl, hb6⟩; have H6 := Lib.hid ((H5.out.setKa 2).next hb6); obtain ⟨⟨h1, h2, h3, h4⟩, gh1, gh2, gh3, gh4⟩ := H6.out.hv; obtain ⟨⟨v1, v2, v3, v4⟩, _⟩ := H6.out.vv; simp only [Nat.zero_add] at h1 h2 h3 h4 gh1 gh2 gh3 gh4 v1 v2 v3 v4; obtain ⟨⟨r1, r2, r3, r4⟩, g1, g2, g3, g4⟩ := H6.out.res; unfold Val.null at r1 r2 r3 r4; simp only [Nat.zero_add] at r1 r2 r3 r4 g1 g2 g3 g4; have hlx := H6.out.ltH; have hlv := H6.out.lt; have hnx := Nat.ne_of_lt hlx; have hnv := Nat.ne_of_lt hlv; have hlr := H6.out.ltR; have hnr := Nat.ne_of_lt hlr; clear hb6))
            have HRS := Lib.hid ((H6.out.res.stored ⟨0, 0, 0, ⟨#[]⟩⟩).below (B := w.heap.size + 1) ((Below.refl (w.heap.size + 1) _).alloc (by simp; omega) (.cells #[.int .i64 qk, .int .i64 qn, .float .f64 qf, .string qs] 28)) (Nat.lt_succ_self _))
            refine ret_val2 Try.results9 rfl rfl rfl HRS.out ⟨congrArg (fun r : Val × Int => Ending.returned (.tuple #[r.1.agg, .int .i64 r.2])) HGO.out, (below_val H6.out.below (Nat.le_refl _) _ _ _ _).alloc (by simp; omega) _⟩
        · unfold Val.num at *
          simp only at *
          simp only [if_neg (show ¬ ((2 : Int) = 0) by omega)] at hgo
          have hqq : ∃ q, q = calcAdd m0 ⟨pk, pn, pf, ps⟩ := ⟨_, rfl⟩
          obtain ⟨⟨⟨qk, qn, qf, qs⟩, qe⟩, hq⟩ := hqq
          rw [← hq] at hgo
          have HQ := Lib.hid hq.symm
          have hqi : qe = 0 → AddI ⟨qk, qn, qf, qs⟩ := fun h0 => by
            have := addV_inv ⟨2, m0, 0, ⟨#[]⟩⟩ ⟨pk, pn, pf, ps⟩ (.inr ⟨m0, rfl, hm0⟩)
            unfold addV at this
            rw [show (if (⟨2, m0, 0, ⟨#[]⟩⟩ : Val).kind = 0 then (0 : Int) else (⟨2, m0, 0, ⟨#[]⟩⟩ : Val).int) = m0 from if_neg (by simp), ← hq] at this
            exact this h0
          simp only at hgo
          clear hq
          by_cases he : qe = 0
          · subst he
            rw [if_pos rfl] at hgo
            have HQI := Lib.hid (hqi rfl)
            have hqw := HQI.out.wf
            have HGO := Lib.hid hgo
            clear hgo hqi h0
            go_wp2_with (first | (go_at_call 22; refine (RPlain_exp _ _ _ _ (by assumption) _).mono ?_; rw [HP.out]; rintro e w5 ⟨rfl, hb5⟩; have H5 := Lib.hid ((HG.out.next hb5).box ⟨pk, pn, pf, ps⟩ 28); obtain ⟨⟨h1, h2, h3, h4⟩, gh1, gh2, gh3, gh4⟩ := H5.out.hv; obtain ⟨⟨v1, v2, v3, v4⟩, _⟩ := H5.out.vv; simp only [Nat.zero_add] at h1 h2 h3 h4 gh1 gh2 gh3 gh4 v1 v2 v3 v4; obtain ⟨⟨a1, a2, a3, a4⟩, fa1, fa2, fa3, fa4⟩ := (HG.out.next hb5).hv; simp only [Nat.zero_add] at a1 a2 a3 a4 fa1 fa2 fa3 fa4; have hl5 := H5.out.gt; have hn5 := Nat.ne_of_lt hl5; have hl0 : w.heap.size < w5.heap.size := Nat.lt_trans (Nat.lt_succ_self _) hl5; have hn0 := Nat.ne_of_lt hl0; clear hb5) | (go_at_call 23; refine (RCalcAdd_exp _ _ _ _ _ (by assumption) (by assumption) _).mono ?_; rw [HQ.out]; rintro e w6 ⟨rfl, hb6⟩; have H6 := Lib.hid (H5.out.next hb6); obtain ⟨⟨h1, h2, h3, h4⟩, gh1, gh2, gh3, gh4⟩ := H6.out.hv; obtain ⟨⟨v1, v2, v3, v4⟩, _⟩ := H6.out.vv; simp only [Nat.zero_add] at h1 h2 h3 h4 gh1 gh2 gh3 gh4 v1 v2 v3 v4; obtain ⟨⟨r1, r2, r3, r4⟩, g1, g2, g3, g4⟩ := H6.out.res; unfold Val.null at r1 r2 r3 r4; simp only [Nat.zero_add] at r1 r2 r3 r4 g1 g2 g3 g4; have hlx := H6.out.ltH; have hlv := H6.out.lt; have hnx := Nat.ne_of_lt hlx; have hnv := Nat.ne_of_lt hlv; have hlr := H6.out.ltR; have hnr := Nat.ne_of_lt hlr; clear hb6) | (go_at_call 24; refine (RCmp_exp _ _ _ _ _ _ _ _ (by assumption) (by assumption) _).mono ?_; rintro e w7 ⟨rfl, hb7⟩; (first | (have H7 := Lib.hid (((H6.out.next ((Below.refl _ _).alloc (Nat.le_refl _) (.cells #[.int .i64 qk, .int .i64 qn, .float .f64 qf, .string qs] 28))).setH ⟨qk, qn, qf, qs⟩).next hb7)) | (have H7 := Lib.hid (((H6.out.setH ⟨qk, qn, qf, qs⟩).next ((Below.refl _ _).alloc (Nat.le_refl _) (.cells #[.int .i64 qk, .int .i64 qn, .float .f64 qf, .string qs] 28))).next hb7))); clear hb7))
            refine ⟨⟨k + 1, _, ⟨qk, qn, qf, qs⟩, by go_num, by omega, rfl, HGO.out, HQI.out, H7.out.g⟩, ?_⟩
            simp [intOf]; omega
          · have hen : ((qe : Int) != 0) = true := by simp; exact he
            rw [if_neg he] at hgo
            have HGO := Lib.hid hgo
            clear hgo hqi h0 he
            go_wp2_with (first | (go_at_call 22; refine (RPlain_exp _ _ _ _ (by assumption) _).mono ?_; rw [HP.out]; rintro e w5 ⟨rfl, hb5⟩; have H5 := Lib.hid ((HG.out.next hb5).box ⟨pk, pn, pf, ps⟩ 28); obtain ⟨⟨h1, h2, h3, h4⟩, gh1, gh2, gh3, gh4⟩ := H5.out.hv; obtain ⟨⟨v1, v2, v3, v4⟩, _⟩ := H5.out.vv; simp only [Nat.zero_add] at h1 h2 h3 h4 gh1 gh2 gh3 gh4 v1 v2 v3 v4; obtain ⟨⟨a1, a2, a3, a4⟩, fa1, fa2, fa3, fa4⟩ := (HG.out.next hb5).hv; simp only [Nat.zero_add] at a1 a2 a3 a4 fa1 fa2 fa3 fa4; have hl5 := H5.out.gt; have hn5 := Nat.ne_of_lt hl5; have hl0 : w.heap.size < w5.heap.size := Nat.lt_trans (Nat.lt_succ_self _) hl5; have hn0 := Nat.ne_of_lt hl0; clear hb5) | (go_at_call 23; refine (RCalcAdd_exp _ _ _ _ _ (by assumption) (by assumption) _).mono ?_; rw [HQ.out]; rintro e w6 ⟨rfl, hb6⟩; have H6 := Lib.hid (H5.out.next hb6); obtain ⟨⟨h1, h2, h3, h4⟩, gh1, gh2, gh3, gh4⟩ := H6.out.hv; obtain ⟨⟨v1, v2, v3, v4⟩, _⟩ := H6.out.vv; simp only [Nat.zero_add] at h1 h2 h3 h4 gh1 gh2 gh3 gh4 v1 v2 v3 v4; obtain ⟨⟨r1, r2, r3, r4⟩, g1, g2, g3, g4⟩ := H6.out.res; unfold Val.null at r1 r2 r3 r4; simp only [Nat.zero_add] at r1 r2 r3 r4 g1 g2 g3 g4; have hlx := H6.out.ltH; have hlv := H6.out.lt; have hnx := Nat.ne_of_lt hlx; have hnv := Nat.ne_of_lt hlv; have hlr := H6.out.ltR; have hnr := Nat.ne_of_lt hlr; clear hb6))
            have HRS := Lib.hid ((H6.out.res.stored ⟨0, 0, 0, ⟨#[]⟩⟩).below (B := w.heap.size + 1) ((Below.refl (w.heap.size + 1) _).alloc (by simp; omega) (.cells #[.int .i64 qk, .int .i64 qn, .float .f64 qf, .string qs] 28)) (Nat.lt_succ_self _))
            refine ret_val2 Try.results9 rfl rfl rfl HRS.out ⟨congrArg (fun r : Val × Int => Ending.returned (.tuple #[r.1.agg, .int .i64 r.2])) HGO.out, (below_val H6.out.below (Nat.le_refl _) _ _ _ _).alloc (by simp; omega) _⟩
    · obtain rfl : k = len := by omega
      obtain ⟨hk', hn', hf', hs'⟩ := h
      rw [List.drop_of_length_le (by rw [HLEN.out]; exact Nat.le_refl _)] at hgo
      have HGO := Lib.hid hgo
      clear hgo hinv hg
      obtain ⟨⟨h1, h2, h3, h4⟩, _⟩ := HG.out.hv
      obtain ⟨⟨r1, r2, r3, r4⟩, g1, g2, g3, g4⟩ := HG.out.res
      unfold Val.null at r1 r2 r3 r4
      simp only [Nat.zero_add] at h1 h2 h3 h4 r1 r2 r3 r4 g1 g2 g3 g4
      go_wp2
      refine ret_val2 Try.results9 rfl rfl rfl (HG.out.res.stored ⟨hk', hn', hf', hs'⟩) ⟨?_, below_val HG.out.below (Nat.le_refl _) _ _ _ _⟩
      rw [← HGO.out]; rfl

end Go.Proofs.Ytaanejhpodbdnaa
