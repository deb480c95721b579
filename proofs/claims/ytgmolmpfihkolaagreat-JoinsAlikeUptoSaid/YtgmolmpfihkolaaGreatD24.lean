/- Part of the proof. -/
import Derived.Test.YtgmolmpfihkolaaGreatD23
import Derived.Maps.OwnRows
import Derived.Maps.GroupsBeside
import Derived.Maps.Views
namespace Go.Proofs.YtgmolmpfihkolaaGreat.Pj
open Go.RowKit Go.Proofs.YtgmolmpfihkolaaGreatW.PrintWords Go.Proofs.YtgmolmpfihkolaaGreatW.PrintLast Go.Proofs.YtgmolmpfihkolaaGreatW.PrintMore
attribute [local go_sem] run_store_flt max2_int min2_int max_two min_two max_three min_three max_four min_four
set_option linter.unusedVariables false
set_option linter.unusedSimpArgs false
def value_Put.f (k : Nat) (l0 : List Int) (a1_0 : Int) (a1_1 : Int) (a1_2 : Nat) (a1_3 : ByteArray) : Option (List Int) := (value_Plain.f a1_0 a1_1 a1_2 a1_3).bind fun bt214 => (if l0.length < 140737488355328 then ((some (l0 ++ [(bt214.1) % 256] : List Int)).bind fun y218 => (if bt214.1 = 1 then (if y218.length < 140737488355328 then (some (y218 ++ [(bt214.2.1) % 256])) else (none)) else (if bt214.1 = 2 then ((codec_PutInt.f k y218 bt214.2.1).bind fun t224 => (some t224)) else (if bt214.1 = 3 then ((codec_PutFloat.f k y218 bt214.2.2.1).bind fun t227 => (some t227)) else (if bt214.1 = 4 then ((codec_PutText.f k y218 bt214.2.2.2).bind fun t230 => (some t230)) else (some y218)))))) else (none))
set_option maxHeartbeats 8000000 in
set_option maxRecDepth 100000 in
theorem value_Put.calls (k : Nat) (P0_ : Nat → Prop) (u9000_ : Value) (l0 : List Int) (a1_0 : Int) (a1_1 : Int) (a1_2 : Nat) (a1_3 : ByteArray) (r : List Int) (w0 w : World) (hB : Below w0.heap.size w0 w) (ho0 : Kd.R (Kd.int .u8) 5 w w0.heap.size P0_ u9000_ l0) (h : value_Put.f k l0 a1_0 a1_1 a1_2 a1_3 = some r) :
 Calls Tryz.prog 70 #[u9000_, .agg #[.int .i64 a1_0, .int .i64 a1_1, .float .f64 a1_2, .string a1_3]] w fun e w' => ∃ v0_ : Value, e = .returned (v0_) ∧ Kd.R (Kd.int .u8) 5 w' w0.heap.size (fun k_ => (P0_ k_ ∨ w.heap.size ≤ k_)) v0_ r ∧ Below w0.heap.size w0 w' ∧ Kept w w' (fun k_ => P0_ k_) := by
 have hu39 := Tryz.underlying39
 have HO0 := akk (show Kd.R (Kd.int .u8) 5 w w0.heap.size (fun k_ => (P0_ k_ ∨ w.heap.size ≤ k_)) u9000_ l0 from Kd.R_mono ho0 (fun k_ hk => (.inl hk)))
 have HK := akk (Kept.refl w (fun k_ => P0_ k_))
 have HW0 := akk hB.size
 have HB := akk hB
 clear hB
 have H : ((value_Plain.f a1_0 a1_1 a1_2 a1_3).bind fun bt214 => (if l0.length < 140737488355328 then ((some (l0 ++ [(bt214.1) % 256] : List Int)).bind fun y218 => (if bt214.1 = 1 then (if y218.length < 140737488355328 then (some (y218 ++ [(bt214.2.1) % 256])) else (none)) else (if bt214.1 = 2 then ((codec_PutInt.f k y218 bt214.2.1).bind fun t224 => (some t224)) else (if bt214.1 = 3 then ((codec_PutFloat.f k y218 bt214.2.2.1).bind fun t227 => (some t227)) else (if bt214.1 = 4 then ((codec_PutText.f k y218 bt214.2.2.2).bind fun t230 => (some t230)) else (some y218)))))) else (none))) = some r := h
 clear h
 obtain ⟨⟨t214, t215, t216, t217⟩, A3, H⟩ := bi H
 try dsimp only at H
 by_cases c4 : l0.length < 140737488355328
 ·rw [if_pos c4] at H
  have LMc4 := akk c4
  clear c4
  obtain ⟨y218, hy218⟩ : ∃ y_ : List Int, y_ = (l0 ++ [(t214) % 256]) := ⟨_, rfl⟩
  replace H : (if t214 = 1 then (if y218.length < 140737488355328 then (some (y218 ++ [(t215) % 256])) else (none)) else (if t214 = 2 then ((codec_PutInt.f k y218 t215).bind fun t224 => (some t224)) else (if t214 = 3 then ((codec_PutFloat.f k y218 t216).bind fun t227 => (some t227)) else (if t214 = 4 then ((codec_PutText.f k y218 t217).bind fun t230 => (some t230)) else (some y218))))) = some r := jT hy218 H
  have Ny218 := akk hy218
  clear hy218
  by_cases c5 : t214 = 1
  ·rw [if_pos c5] at H
   have c5b0 : (t214 == 1) = true := beq_iff_eq.mpr c5
   have c5b1 : (t214 != 1) = false := bne_eq_false_iff_eq.mpr c5
   clear c5
   by_cases c6 : y218.length < 140737488355328
   ·rw [if_pos c6] at H
    have LMc6 := akk c6
    clear c6
    obtain ⟨y221, hy221⟩ : ∃ y_ : List Int, y_ = (y218 ++ [(t215) % 256]) := ⟨_, rfl⟩
    replace H : (some y221) = some r := jT hy221 H
    have Ny221 := akk hy221
    clear hy221
    obtain rfl := Option.some.inj H
    go_enter Tryz.func70, Tryz.ntmps70
    go_wp2_with (first | ((with_reducible refine gate_dst (N := 3) rfl ?_); refine box_event ?hg (N := 3) ?hd (cs := #[.int .i64 a1_0, .int .i64 a1_1, .float .f64 a1_2, .string a1_3]) (t := 39) ?hr ?_; (case hd => rfl); (case hg => rfl); (case hr => first | (go_simp; done) | (go_simp; rfl)); intro gb213 hg w7 hbox hb; replace HO0 := rb HO0 hb; have BK213 := akk (hbox); have GW213 := akk ((by rw [hg]; exact hk1 : w.heap.size ≤ gb213)); replace HK := hB HK hb; have GE213 := gw (p := w0.heap.size ≤ gb213) hg; replace HB := bb HB hb; clear hb hbox hg; obtain ⟨hcz8_0, hcz8_1, hcz8_2, hcz8_3⟩ := cz4 BK213; obtain ⟨hfz8_0, hfz8_1, hfz8_2, hfz8_3⟩ := fz4 BK213) | (refine gT 35 (some 6) Tryz.func35 #[.agg #[.int .i64 a1_0, .int .i64 a1_1, .float .f64 a1_2, .string a1_3]] ?_; (with_reducible refine (value_Plain.calls a1_0 a1_1 a1_2 a1_3 t214 t215 t216 t217 _ A3.out).mono ?_); rintro e w9 ⟨rfl, hb⟩; refine ⟨_, rfl, ?_⟩; replace HO0 := rb HO0 hb; replace BK213 := kb BK213 hb; replace HK := akk (Kept.below (S := (fun k_ => P0_ k_)) (hKs GW213.out) hb); replace HB := bg GE213 hb; (try clear hb); (try clear hb2); (try clear hk); (try clear hi); obtain ⟨hcz10_0, hcz10_1, hcz10_2, hcz10_3⟩ := cz4 BK213; obtain ⟨hfz10_0, hfz10_1, hfz10_2, hfz10_3⟩ := fz4 BK213) | ((with_reducible refine gA #[.tmp 7, .tmp 11] rfl ?_); at_builtin; refine Kd.R_append (Kd.int .u8) (w0 := w0) w0.heap.size rfl (.tmp 7) (.tmp 11) 81 5 (.int .u8 0) 1 rfl Tryz.underlying81 info5 rfl (by decide) (by omega) u9000_ l0 ((t214) % 256) [.int .u8 ((t214) % 256)] (fun k_ => (P0_ k_ ∨ w.heap.size ≤ k_)) (fun _ => False) rfl (by first | (go_simp; done) | (go_simp; rfl)) ?aP (fun _ hk => hk.elim) ?aF ?aO ?aB ?aS ?aL ?_; (case aP => exact rfl); (case aB => exact (bS GE213.out)); (case aF => exact (fun k_ hk => (.inr (Nat.le_trans (show Kept w _ (fun k_ => P0_ k_) from hKs GW213.out).1 hk)))); (case aO => exact (rT' (Kd.R_mono (Kd.R_far (p := ⟨gb213, 3, none⟩) (Kd.R_far (p := ⟨gb213, 2, none⟩) (Kd.R_far (p := ⟨gb213, 1, none⟩) (Kd.R_far (p := ⟨gb213, 0, none⟩) (Kd.R_types HO0.out BK213.out (by decide)) (fun _ hk => hk.2) (.int .i64 t214)) (fun _ hk => hk.2) (.int .i64 t215)) (fun _ hk => hk.2) (.float .f64 t216)) (fun _ hk => hk.2) (.string t217)) (fun _ hk => hk.1)))); (case aS => exact (below_size (bS GE213.out))); (case aL => have := LMc4.out; omega); intro v219 w11 ho hb hg hat; rw [← Ny218.out] at ho; replace BK213 := akk (blk_grown (o := .cells #[.int .i64 t214, .int .i64 t215, .float .f64 t216, .string t217] 39 (0, 0)) (kP BK213.out) hg (Kd.R_ne HO0.out BK213.out (by decide))); replace HB := akk (hb); replace HK := akk (Kept.of_grown (S := (fun k_ => P0_ k_)) hg (hKs GW213.out) (fun k_ e_ => (HO0.out.1 k_ e_))); have HO220 := akk (ho); clear HO0; clear ho hb hg hat; obtain ⟨hcz12_0, hcz12_1, hcz12_2, hcz12_3⟩ := cz4 BK213; obtain ⟨hfz12_0, hfz12_1, hfz12_2, hfz12_3⟩ := fz4 BK213) | ((with_reducible refine gA #[.tmp 17, .tmp 21] rfl ?_); at_builtin; refine Kd.R_append (Kd.int .u8) (w0 := w0) w0.heap.size rfl (.tmp 17) (.tmp 21) 81 5 (.int .u8 0) 1 rfl Tryz.underlying81 info5 rfl (by decide) (by omega) v219 y218 ((t215) % 256) [.int .u8 ((t215) % 256)] (fun k_ => (P0_ k_ ∨ w.heap.size ≤ k_)) (fun _ => False) rfl rfl ?aP (fun _ hk => hk.elim) ?aF ?aO ?aB ?aS ?aL ?_; (case aP => exact rfl); (case aB => exact (bS GE213.out)); (case aF => exact (fun k_ hk => (.inr (Nat.le_trans (by first | exact HK.out.1 | exact (show Kept w _ (fun k_ => P0_ k_) from hKs GW213.out).1) hk)))); (case aO => exact (rT HO220.out)); (case aS => exact (below_size (bS GE213.out))); (case aL => have := LMc6.out; omega); intro v222 w13 ho hb hg hat; rw [← Ny221.out] at ho; replace BK213 := kg BK213 hg (Kd.R_ne HO220.out BK213.out (by decide)); replace HB := akk (hb); replace HK := akk (Kept.of_grown (S := (fun k_ => P0_ k_)) hg (hKs GW213.out) (fun k_ e_ => (HO220.out.1 k_ e_))); have HO223 := akk (ho); clear HO220; clear ho hb hg hat))
    go_ret
    exact ⟨_, fT, rT' HO223.out, by repeat (first | (with_reducible first | exact HB.out | apply below_alloc | apply pw_below_drewN | apply below_drew1 | refine below_set ?_ GE213.out) | exact HB.out), by repeat (first | (with_reducible first | exact HK.out | apply Kept.alloc | apply Kept.drewN | apply Kept.drew | refine Kept.setCell ?_ (.inr GW213.out) _) | exact HK.out)⟩
   ·rw [if_neg c6] at H
    exact absurd H (by simp)
  ·rw [if_neg c5] at H
   have c5b0 : (t214 == 1) = false := beq_eq_false_iff_ne.mpr c5
   have c5b1 : (t214 != 1) = true := bne_iff_ne.mpr c5
   by_cases c14 : t214 = 2
   ·rw [if_pos c14] at H
    have c14b0 : (t214 == 2) = true := beq_iff_eq.mpr c14
    have c14b1 : (t214 != 2) = false := bne_eq_false_iff_eq.mpr c14
    clear c14
    obtain ⟨t224, A15, H⟩ := bi H
    try dsimp only at H
    obtain rfl := Option.some.inj H
    go_enter Tryz.func70, Tryz.ntmps70
    go_wp2_with (first | ((with_reducible refine gate_dst (N := 3) rfl ?_); refine box_event ?hg (N := 3) ?hd (cs := #[.int .i64 a1_0, .int .i64 a1_1, .float .f64 a1_2, .string a1_3]) (t := 39) ?hr ?_; (case hd => rfl); (case hg => rfl); (case hr => first | (go_simp; done) | (go_simp; rfl)); intro gb213 hg w16 hbox hb; replace HO0 := rb HO0 hb; have BK213 := akk (hbox); have GW213 := akk ((by rw [hg]; exact hk1 : w.heap.size ≤ gb213)); replace HK := hB HK hb; have GE213 := gw (p := w0.heap.size ≤ gb213) hg; replace HB := bb HB hb; clear hb hbox hg; obtain ⟨hcz17_0, hcz17_1, hcz17_2, hcz17_3⟩ := cz4 BK213; obtain ⟨hfz17_0, hfz17_1, hfz17_2, hfz17_3⟩ := fz4 BK213) | (refine gT 35 (some 6) Tryz.func35 #[.agg #[.int .i64 a1_0, .int .i64 a1_1, .float .f64 a1_2, .string a1_3]] ?_; (with_reducible refine (value_Plain.calls a1_0 a1_1 a1_2 a1_3 t214 t215 t216 t217 _ A3.out).mono ?_); rintro e w18 ⟨rfl, hb⟩; refine ⟨_, rfl, ?_⟩; replace HO0 := rb HO0 hb; replace BK213 := kb BK213 hb; replace HK := akk (Kept.below (S := (fun k_ => P0_ k_)) (hKs GW213.out) hb); replace HB := bg GE213 hb; (try clear hb); (try clear hb2); (try clear hk); (try clear hi); obtain ⟨hcz19_0, hcz19_1, hcz19_2, hcz19_3⟩ := cz4 BK213; obtain ⟨hfz19_0, hfz19_1, hfz19_2, hfz19_3⟩ := fz4 BK213) | ((with_reducible refine gA #[.tmp 7, .tmp 11] rfl ?_); at_builtin; refine Kd.R_append (Kd.int .u8) (w0 := w0) w0.heap.size rfl (.tmp 7) (.tmp 11) 81 5 (.int .u8 0) 1 rfl Tryz.underlying81 info5 rfl (by decide) (by omega) u9000_ l0 ((t214) % 256) [.int .u8 ((t214) % 256)] (fun k_ => (P0_ k_ ∨ w.heap.size ≤ k_)) (fun _ => False) rfl (by first | (go_simp; done) | (go_simp; rfl)) ?aP (fun _ hk => hk.elim) ?aF ?aO ?aB ?aS ?aL ?_; (case aP => exact rfl); (case aB => exact (bS GE213.out)); (case aF => exact (fun k_ hk => (.inr (Nat.le_trans (show Kept w _ (fun k_ => P0_ k_) from hKs GW213.out).1 hk)))); (case aO => exact (rT' (Kd.R_mono (Kd.R_far (p := ⟨gb213, 3, none⟩) (Kd.R_far (p := ⟨gb213, 2, none⟩) (Kd.R_far (p := ⟨gb213, 1, none⟩) (Kd.R_far (p := ⟨gb213, 0, none⟩) (Kd.R_types HO0.out BK213.out (by decide)) (fun _ hk => hk.2) (.int .i64 t214)) (fun _ hk => hk.2) (.int .i64 t215)) (fun _ hk => hk.2) (.float .f64 t216)) (fun _ hk => hk.2) (.string t217)) (fun _ hk => hk.1)))); (case aS => exact (below_size (bS GE213.out))); (case aL => have := LMc4.out; omega); intro v219 w20 ho hb hg hat; rw [← Ny218.out] at ho; replace BK213 := akk (blk_grown (o := .cells #[.int .i64 t214, .int .i64 t215, .float .f64 t216, .string t217] 39 (0, 0)) (kP BK213.out) hg (Kd.R_ne HO0.out BK213.out (by decide))); replace HB := akk (hb); replace HK := akk (Kept.of_grown (S := (fun k_ => P0_ k_)) hg (hKs GW213.out) (fun k_ e_ => (HO0.out.1 k_ e_))); have HO220 := akk (ho); clear HO0; clear ho hb hg hat; obtain ⟨hcz21_0, hcz21_1, hcz21_2, hcz21_3⟩ := cz4 BK213; obtain ⟨hfz21_0, hfz21_1, hfz21_2, hfz21_3⟩ := fz4 BK213; obtain ⟨Ao22, co22, eo22⟩ := Kd.R_slice HO220.out; subst eo22) | (refine gT 96 (some 28) Tryz.func96 #[.slice Ao22 y218.length co22, .int .i64 t215] ?_; (with_reducible refine (codec_PutInt.calls k (fun k_ => some k_ = (.slice Ao22 y218.length co22 : Value).ownBlock) (.slice Ao22 y218.length co22) y218 t215 t224 w0 _ ?_ ?_ A15.out).mono ?_); exact bS GE213.out; exact Kd.R_tight rfl HO220.out; rintro e w23 ⟨v225, rfl, ho0, hb, hkp⟩; refine ⟨_, rfl, ?_⟩; replace BK213 := akk (blk_kept (kT BK213.out) hkp (fun hs_ => (fun e_ => (Kd.R_ne HO220.out BK213.out (by decide)) e_) hs_)); have HO226 := akk (Kd.R_mono (ok' := fun k_ => (P0_ k_ ∨ w.heap.size ≤ k_)) ho0 (fun k_ hk_ => Or.elim hk_ (fun hs_ => (HO220.out.1 k_ (hs_).symm)) (fun hn_ => (.inr (Nat.le_trans (by first | exact HK.out.1 | exact (show Kept w _ (fun k_ => P0_ k_) from hKs GW213.out).1) hn_))))); replace HK := akk (Kept.then_ (S := (fun k_ => P0_ k_)) (hKs GW213.out) hkp (fun k_ hs_ => (fun e_ => (HO220.out.1 k_ e_.symm)) hs_)); replace HB := akk (hb); clear HO220; clear hb hkp ho0))
    go_ret
    exact ⟨_, fT, rT' HO226.out, by repeat (first | (with_reducible first | exact HB.out | apply below_alloc | apply pw_below_drewN | apply below_drew1 | refine below_set ?_ GE213.out) | exact HB.out), by repeat (first | (with_reducible first | exact HK.out | apply Kept.alloc | apply Kept.drewN | apply Kept.drew | refine Kept.setCell ?_ (.inr GW213.out) _) | exact HK.out)⟩
   ·rw [if_neg c14] at H
    have c14b0 : (t214 == 2) = false := beq_eq_false_iff_ne.mpr c14
    have c14b1 : (t214 != 2) = true := bne_iff_ne.mpr c14
    by_cases c24 : t214 = 3
    ·rw [if_pos c24] at H
     have c24b0 : (t214 == 3) = true := beq_iff_eq.mpr c24
     have c24b1 : (t214 != 3) = false := bne_eq_false_iff_eq.mpr c24
     clear c24
     obtain ⟨t227, A25, H⟩ := bi H
     try dsimp only at H
     obtain rfl := Option.some.inj H
     go_enter Tryz.func70, Tryz.ntmps70
     go_wp2_with (first | ((with_reducible refine gate_dst (N := 3) rfl ?_); refine box_event ?hg (N := 3) ?hd (cs := #[.int .i64 a1_0, .int .i64 a1_1, .float .f64 a1_2, .string a1_3]) (t := 39) ?hr ?_; (case hd => rfl); (case hg => rfl); (case hr => first | (go_simp; done) | (go_simp; rfl)); intro gb213 hg w26 hbox hb; replace HO0 := rb HO0 hb; have BK213 := akk (hbox); have GW213 := akk ((by rw [hg]; exact hk1 : w.heap.size ≤ gb213)); replace HK := hB HK hb; have GE213 := gw (p := w0.heap.size ≤ gb213) hg; replace HB := bb HB hb; clear hb hbox hg; obtain ⟨hcz27_0, hcz27_1, hcz27_2, hcz27_3⟩ := cz4 BK213; obtain ⟨hfz27_0, hfz27_1, hfz27_2, hfz27_3⟩ := fz4 BK213) | (refine gT 35 (some 6) Tryz.func35 #[.agg #[.int .i64 a1_0, .int .i64 a1_1, .float .f64 a1_2, .string a1_3]] ?_; (with_reducible refine (value_Plain.calls a1_0 a1_1 a1_2 a1_3 t214 t215 t216 t217 _ A3.out).mono ?_); rintro e w28 ⟨rfl, hb⟩; refine ⟨_, rfl, ?_⟩; replace HO0 := rb HO0 hb; replace BK213 := kb BK213 hb; replace HK := akk (Kept.below (S := (fun k_ => P0_ k_)) (hKs GW213.out) hb); replace HB := bg GE213 hb; (try clear hb); (try clear hb2); (try clear hk); (try clear hi); obtain ⟨hcz29_0, hcz29_1, hcz29_2, hcz29_3⟩ := cz4 BK213; obtain ⟨hfz29_0, hfz29_1, hfz29_2, hfz29_3⟩ := fz4 BK213) | ((with_reducible refine gA #[.tmp 7, .tmp 11] rfl ?_); at_builtin; refine Kd.R_append (Kd.int .u8) (w0 := w0) w0.heap.size rfl (.tmp 7) (.tmp 11) 81 5 (.int .u8 0) 1 rfl Tryz.underlying81 info5 rfl (by decide) (by omega) u9000_ l0 ((t214) % 256) [.int .u8 ((t214) % 256)] (fun k_ => (P0_ k_ ∨ w.heap.size ≤ k_)) (fun _ => False) rfl (by first | (go_simp; done) | (go_simp; rfl)) ?aP (fun _ hk => hk.elim) ?aF ?aO ?aB ?aS ?aL ?_; (case aP => exact rfl); (case aB => exact (bS GE213.out)); (case aF => exact (fun k_ hk => (.inr (Nat.le_trans (show Kept w _ (fun k_ => P0_ k_) from hKs GW213.out).1 hk)))); (case aO => exact (rT' (Kd.R_mono (Kd.R_far (p := ⟨gb213, 3, none⟩) (Kd.R_far (p := ⟨gb213, 2, none⟩) (Kd.R_far (p := ⟨gb213, 1, none⟩) (Kd.R_far (p := ⟨gb213, 0, none⟩) (Kd.R_types HO0.out BK213.out (by decide)) (fun _ hk => hk.2) (.int .i64 t214)) (fun _ hk => hk.2) (.int .i64 t215)) (fun _ hk => hk.2) (.float .f64 t216)) (fun _ hk => hk.2) (.string t217)) (fun _ hk => hk.1)))); (case aS => exact (below_size (bS GE213.out))); (case aL => have := LMc4.out; omega); intro v219 w30 ho hb hg hat; rw [← Ny218.out] at ho; replace BK213 := akk (blk_grown (o := .cells #[.int .i64 t214, .int .i64 t215, .float .f64 t216, .string t217] 39 (0, 0)) (kP BK213.out) hg (Kd.R_ne HO0.out BK213.out (by decide))); replace HB := akk (hb); replace HK := akk (Kept.of_grown (S := (fun k_ => P0_ k_)) hg (hKs GW213.out) (fun k_ e_ => (HO0.out.1 k_ e_))); have HO220 := akk (ho); clear HO0; clear ho hb hg hat; obtain ⟨hcz31_0, hcz31_1, hcz31_2, hcz31_3⟩ := cz4 BK213; obtain ⟨hfz31_0, hfz31_1, hfz31_2, hfz31_3⟩ := fz4 BK213; obtain ⟨Ao32, co32, eo32⟩ := Kd.R_slice HO220.out; subst eo32) | (refine gT 97 (some 34) Tryz.func97 #[.slice Ao32 y218.length co32, .float .f64 t216] ?_; (with_reducible refine (codec_PutFloat.calls k (fun k_ => some k_ = (.slice Ao32 y218.length co32 : Value).ownBlock) (.slice Ao32 y218.length co32) y218 t216 t227 w0 _ ?_ ?_ A25.out).mono ?_); exact bS GE213.out; exact Kd.R_tight rfl HO220.out; rintro e w33 ⟨v228, rfl, ho0, hb, hkp⟩; refine ⟨_, rfl, ?_⟩; replace BK213 := akk (blk_kept (kT BK213.out) hkp (fun hs_ => (fun e_ => (Kd.R_ne HO220.out BK213.out (by decide)) e_) hs_)); have HO229 := akk (Kd.R_mono (ok' := fun k_ => (P0_ k_ ∨ w.heap.size ≤ k_)) ho0 (fun k_ hk_ => Or.elim hk_ (fun hs_ => (HO220.out.1 k_ (hs_).symm)) (fun hn_ => (.inr (Nat.le_trans (by first | exact HK.out.1 | exact (show Kept w _ (fun k_ => P0_ k_) from hKs GW213.out).1) hn_))))); replace HK := akk (Kept.then_ (S := (fun k_ => P0_ k_)) (hKs GW213.out) hkp (fun k_ hs_ => (fun e_ => (HO220.out.1 k_ e_.symm)) hs_)); replace HB := akk (hb); clear HO220; clear hb hkp ho0))
     go_ret
     exact ⟨_, fT, rT' HO229.out, by repeat (first | (with_reducible first | exact HB.out | apply below_alloc | apply pw_below_drewN | apply below_drew1 | refine below_set ?_ GE213.out) | exact HB.out), by repeat (first | (with_reducible first | exact HK.out | apply Kept.alloc | apply Kept.drewN | apply Kept.drew | refine Kept.setCell ?_ (.inr GW213.out) _) | exact HK.out)⟩
    ·rw [if_neg c24] at H
     have c24b0 : (t214 == 3) = false := beq_eq_false_iff_ne.mpr c24
     have c24b1 : (t214 != 3) = true := bne_iff_ne.mpr c24
     by_cases c34 : t214 = 4
     ·rw [if_pos c34] at H
      have c34b0 : (t214 == 4) = true := beq_iff_eq.mpr c34
      have c34b1 : (t214 != 4) = false := bne_eq_false_iff_eq.mpr c34
      clear c34
      obtain ⟨t230, A35, H⟩ := bi H
      try dsimp only at H
      obtain rfl := Option.some.inj H
      go_enter Tryz.func70, Tryz.ntmps70
      go_wp2_with (first | ((with_reducible refine gate_dst (N := 3) rfl ?_); refine box_event ?hg (N := 3) ?hd (cs := #[.int .i64 a1_0, .int .i64 a1_1, .float .f64 a1_2, .string a1_3]) (t := 39) ?hr ?_; (case hd => rfl); (case hg => rfl); (case hr => first | (go_simp; done) | (go_simp; rfl)); intro gb213 hg w36 hbox hb; replace HO0 := rb HO0 hb; have BK213 := akk (hbox); have GW213 := akk ((by rw [hg]; exact hk1 : w.heap.size ≤ gb213)); replace HK := hB HK hb; have GE213 := gw (p := w0.heap.size ≤ gb213) hg; replace HB := bb HB hb; clear hb hbox hg; obtain ⟨hcz37_0, hcz37_1, hcz37_2, hcz37_3⟩ := cz4 BK213; obtain ⟨hfz37_0, hfz37_1, hfz37_2, hfz37_3⟩ := fz4 BK213) | (refine gT 35 (some 6) Tryz.func35 #[.agg #[.int .i64 a1_0, .int .i64 a1_1, .float .f64 a1_2, .string a1_3]] ?_; (with_reducible refine (value_Plain.calls a1_0 a1_1 a1_2 a1_3 t214 t215 t216 t217 _ A3.out).mono ?_); rintro e w38 ⟨rfl, hb⟩; refine ⟨_, rfl, ?_⟩; replace HO0 := rb HO0 hb; replace BK213 := kb BK213 hb; replace HK := akk (Kept.below (S := (fun k_ => P0_ k_)) (hKs GW213.out) hb); replace HB := bg GE213 hb; (try clear hb); (try clear hb2); (try clear hk); (try clear hi); obtain ⟨hcz39_0, hcz39_1, hcz39_2, hcz39_3⟩ := cz4 BK213; obtain ⟨hfz39_0, hfz39_1, hfz39_2, hfz39_3⟩ := fz4 BK213) | ((with_reducible refine gA #[.tmp 7, .tmp 11] rfl ?_); at_builtin; refine Kd.R_append (Kd.int .u8) (w0 := w0) w0.heap.size rfl (.tmp 7) (.tmp 11) 81 5 (.int .u8 0) 1 rfl Tryz.underlying81 info5 rfl (by decide) (by omega) u9000_ l0 ((t214) % 256) [.int .u8 ((t214) % 256)] (fun k_ => (P0_ k_ ∨ w.heap.size ≤ k_)) (fun _ => False) rfl (by first | (go_simp; done) | (go_simp; rfl)) ?aP (fun _ hk => hk.elim) ?aF ?aO ?aB ?aS ?aL ?_; (case aP => exact rfl); (case aB => exact (bS GE213.out)); (case aF => exact (fun k_ hk => (.inr (Nat.le_trans (show Kept w _ (fun k_ => P0_ k_) from hKs GW213.out).1 hk)))); (case aO => exact (rT' (Kd.R_mono (Kd.R_far (p := ⟨gb213, 3, none⟩) (Kd.R_far (p := ⟨gb213, 2, none⟩) (Kd.R_far (p := ⟨gb213, 1, none⟩) (Kd.R_far (p := ⟨gb213, 0, none⟩) (Kd.R_types HO0.out BK213.out (by decide)) (fun _ hk => hk.2) (.int .i64 t214)) (fun _ hk => hk.2) (.int .i64 t215)) (fun _ hk => hk.2) (.float .f64 t216)) (fun _ hk => hk.2) (.string t217)) (fun _ hk => hk.1)))); (case aS => exact (below_size (bS GE213.out))); (case aL => have := LMc4.out; omega); intro v219 w40 ho hb hg hat; rw [← Ny218.out] at ho; replace BK213 := akk (blk_grown (o := .cells #[.int .i64 t214, .int .i64 t215, .float .f64 t216, .string t217] 39 (0, 0)) (kP BK213.out) hg (Kd.R_ne HO0.out BK213.out (by decide))); replace HB := akk (hb); replace HK := akk (Kept.of_grown (S := (fun k_ => P0_ k_)) hg (hKs GW213.out) (fun k_ e_ => (HO0.out.1 k_ e_))); have HO220 := akk (ho); clear HO0; clear ho hb hg hat; obtain ⟨hcz41_0, hcz41_1, hcz41_2, hcz41_3⟩ := cz4 BK213; obtain ⟨hfz41_0, hfz41_1, hfz41_2, hfz41_3⟩ := fz4 BK213; obtain ⟨Ao42, co42, eo42⟩ := Kd.R_slice HO220.out; subst eo42) | (refine gT 98 (some 40) Tryz.func98 #[.slice Ao42 y218.length co42, .string t217] ?_; (with_reducible refine (codec_PutText.calls k (fun k_ => some k_ = (.slice Ao42 y218.length co42 : Value).ownBlock) (.slice Ao42 y218.length co42) y218 t217 t230 w0 _ ?_ ?_ A35.out).mono ?_); exact bS GE213.out; exact Kd.R_tight rfl HO220.out; rintro e w43 ⟨v231, rfl, ho0, hb, hkp⟩; refine ⟨_, rfl, ?_⟩; replace BK213 := akk (blk_kept (kT BK213.out) hkp (fun hs_ => (fun e_ => (Kd.R_ne HO220.out BK213.out (by decide)) e_) hs_)); have HO232 := akk (Kd.R_mono (ok' := fun k_ => (P0_ k_ ∨ w.heap.size ≤ k_)) ho0 (fun k_ hk_ => Or.elim hk_ (fun hs_ => (HO220.out.1 k_ (hs_).symm)) (fun hn_ => (.inr (Nat.le_trans (by first | exact HK.out.1 | exact (show Kept w _ (fun k_ => P0_ k_) from hKs GW213.out).1) hn_))))); replace HK := akk (Kept.then_ (S := (fun k_ => P0_ k_)) (hKs GW213.out) hkp (fun k_ hs_ => (fun e_ => (HO220.out.1 k_ e_.symm)) hs_)); replace HB := akk (hb); clear HO220; clear hb hkp ho0))
      go_ret
      exact ⟨_, fT, rT' HO232.out, by repeat (first | (with_reducible first | exact HB.out | apply below_alloc | apply pw_below_drewN | apply below_drew1 | refine below_set ?_ GE213.out) | exact HB.out), by repeat (first | (with_reducible first | exact HK.out | apply Kept.alloc | apply Kept.drewN | apply Kept.drew | refine Kept.setCell ?_ (.inr GW213.out) _) | exact HK.out)⟩
     ·rw [if_neg c34] at H
      have c34b0 : (t214 == 4) = false := beq_eq_false_iff_ne.mpr c34
      have c34b1 : (t214 != 4) = true := bne_iff_ne.mpr c34
      obtain rfl := Option.some.inj H
      go_enter Tryz.func70, Tryz.ntmps70
      go_wp2_with (first | ((with_reducible refine gate_dst (N := 3) rfl ?_); refine box_event ?hg (N := 3) ?hd (cs := #[.int .i64 a1_0, .int .i64 a1_1, .float .f64 a1_2, .string a1_3]) (t := 39) ?hr ?_; (case hd => rfl); (case hg => rfl); (case hr => first | (go_simp; done) | (go_simp; rfl)); intro gb213 hg w44 hbox hb; replace HO0 := rb HO0 hb; have BK213 := akk (hbox); have GW213 := akk ((by rw [hg]; exact hk1 : w.heap.size ≤ gb213)); replace HK := hB HK hb; have GE213 := gw (p := w0.heap.size ≤ gb213) hg; replace HB := bb HB hb; clear hb hbox hg; obtain ⟨hcz45_0, hcz45_1, hcz45_2, hcz45_3⟩ := cz4 BK213; obtain ⟨hfz45_0, hfz45_1, hfz45_2, hfz45_3⟩ := fz4 BK213) | (refine gT 35 (some 6) Tryz.func35 #[.agg #[.int .i64 a1_0, .int .i64 a1_1, .float .f64 a1_2, .string a1_3]] ?_; (with_reducible refine (value_Plain.calls a1_0 a1_1 a1_2 a1_3 t214 t215 t216 t217 _ A3.out).mono ?_); rintro e w46 ⟨rfl, hb⟩; refine ⟨_, rfl, ?_⟩; replace HO0 := rb HO0 hb; replace BK213 := kb BK213 hb; replace HK := akk (Kept.below (S := (fun k_ => P0_ k_)) (hKs GW213.out) hb); replace HB := bg GE213 hb; (try clear hb); (try clear hb2); (try clear hk); (try clear hi); obtain ⟨hcz47_0, hcz47_1, hcz47_2, hcz47_3⟩ := cz4 BK213; obtain ⟨hfz47_0, hfz47_1, hfz47_2, hfz47_3⟩ := fz4 BK213) | ((with_reducible refine gA #[.tmp 7, .tmp 11] rfl ?_); at_builtin; refine Kd.R_append (Kd.int .u8) (w0 := w0) w0.heap.size rfl (.tmp 7) (.tmp 11) 81 5 (.int .u8 0) 1 rfl Tryz.underlying81 info5 rfl (by decide) (by omega) u9000_ l0 ((t214) % 256) [.int .u8 ((t214) % 256)] (fun k_ => (P0_ k_ ∨ w.heap.size ≤ k_)) (fun _ => False) rfl (by first | (go_simp; done) | (go_simp; rfl)) ?aP (fun _ hk => hk.elim) ?aF ?aO ?aB ?aS ?aL ?_; (case aP => exact rfl); (case aB => exact (bS GE213.out)); (case aF => exact (fun k_ hk => (.inr (Nat.le_trans (show Kept w _ (fun k_ => P0_ k_) from hKs GW213.out).1 hk)))); (case aO => exact (rT' (Kd.R_mono (Kd.R_far (p := ⟨gb213, 3, none⟩) (Kd.R_far (p := ⟨gb213, 2, none⟩) (Kd.R_far (p := ⟨gb213, 1, none⟩) (Kd.R_far (p := ⟨gb213, 0, none⟩) (Kd.R_types HO0.out BK213.out (by decide)) (fun _ hk => hk.2) (.int .i64 t214)) (fun _ hk => hk.2) (.int .i64 t215)) (fun _ hk => hk.2) (.float .f64 t216)) (fun _ hk => hk.2) (.string t217)) (fun _ hk => hk.1)))); (case aS => exact (below_size (bS GE213.out))); (case aL => have := LMc4.out; omega); intro v219 w48 ho hb hg hat; rw [← Ny218.out] at ho; replace BK213 := akk (blk_grown (o := .cells #[.int .i64 t214, .int .i64 t215, .float .f64 t216, .string t217] 39 (0, 0)) (kP BK213.out) hg (Kd.R_ne HO0.out BK213.out (by decide))); replace HB := akk (hb); replace HK := akk (Kept.of_grown (S := (fun k_ => P0_ k_)) hg (hKs GW213.out) (fun k_ e_ => (HO0.out.1 k_ e_))); have HO220 := akk (ho); clear HO0; clear ho hb hg hat; obtain ⟨hcz49_0, hcz49_1, hcz49_2, hcz49_3⟩ := cz4 BK213; obtain ⟨hfz49_0, hfz49_1, hfz49_2, hfz49_3⟩ := fz4 BK213))
      go_ret
      exact ⟨_, fT, rT' HO220.out, by repeat (first | (with_reducible first | exact HB.out | apply below_alloc | apply pw_below_drewN | apply below_drew1 | refine below_set ?_ GE213.out) | exact HB.out), by repeat (first | (with_reducible first | exact HK.out | apply Kept.alloc | apply Kept.drewN | apply Kept.drew | refine Kept.setCell ?_ (.inr GW213.out) _) | exact HK.out)⟩
 ·rw [if_neg c4] at H
  exact absurd H (by simp)
def row_Put.l0 : Nat → List Int → List (S39) → Int → Int → Option (List Int)
 | 0, _, _, _, _ => none
 | k + 1, x0, x12, x13, x14 => if x14 < x13 then (if 0 ≤ x14 then (if x14 < (x12.length : Int) then ((value_Put.f k x0 ((rd_T39 x12 x14).f0) ((rd_T39 x12 x14).f1) ((rd_T39 x12 x14).f2) ((rd_T39 x12 x14).f3)).bind fun t238 => (row_Put.l0 k t238 x12 x13 (wrap64 (x14 + 1)))) else (none)) else (none)) else (some x0)
def row_Put.f (k : Nat) (l0 : List Int) (l1 : List (S39)) : Option (List Int) := (codec_PutUint.f k l0 (IntKind.u64.wrap ((l1.length : Int)))).bind fun t233 => (row_Put.l0 k t233 l1 (l1.length : Int) 0)
set_option maxHeartbeats 8000000 in
set_option maxRecDepth 100000 in
theorem row_Put.calls (k : Nat) (P0_ : Nat → Prop) (u9000_ : Value) (l0 : List Int) (A1 : Option Addr) (c1 : Nat) (l1 : List (S39)) (r : List Int) (w0 w : World) (hB : Below w0.heap.size w0 w) (ho0 : Kd.R (Kd.int .u8) 5 w w0.heap.size P0_ u9000_ l0) (hr1 : ∀ W_, Kept w W_ (fun k_ => P0_ k_) → Kd.C k39 W_ A1 l1.length l1) (hc1 : l1.length ≤ c1) (h : row_Put.f k l0 l1 = some r) :
 Calls Tryz.prog 42 #[u9000_, .slice A1 l1.length c1] w fun e w' => ∃ v0_ : Value, e = .returned (v0_) ∧ Kd.R (Kd.int .u8) 5 w' w0.heap.size (fun k_ => (P0_ k_ ∨ w.heap.size ≤ k_)) v0_ r ∧ Below w0.heap.size w0 w' ∧ Kept w w' (fun k_ => P0_ k_) := by
 have hu39 := Tryz.underlying39
 have HO0 := akk (show Kd.R (Kd.int .u8) 5 w w0.heap.size (fun k_ => (P0_ k_ ∨ w.heap.size ≤ k_)) u9000_ l0 from Kd.R_mono ho0 (fun k_ hk => (.inl hk)))
 have HR1 := akk hr1
 have HC1 := akk hc1
 clear hr1 hc1
 have HK := akk (Kept.refl w (fun k_ => P0_ k_))
 have HW0 := akk hB.size
 have HB := akk hB
 clear hB
 have H : ((codec_PutUint.f k l0 (IntKind.u64.wrap ((l1.length : Int)))).bind fun t233 => (row_Put.l0 k t233 l1 (l1.length : Int) 0)) = some r := h
 clear h
 obtain ⟨t233, A3, H⟩ := bi H
 try dsimp only at H
 have H' := akk H
 clear H
 obtain ⟨Ao4, co4, eo4⟩ := Kd.R_slice HO0.out
 subst eo4
 go_enter Tryz.func42, Tryz.ntmps42
 go_wp2_with (refine gT 69 (some 11) Tryz.func69 #[.slice Ao4 l0.length co4, .int .u64 (IntKind.u64.wrap ((l1.length : Int)))] ?_; (with_reducible refine (codec_PutUint.calls k (fun k_ => some k_ = (.slice Ao4 l0.length co4 : Value).ownBlock) (.slice Ao4 l0.length co4) l0 (IntKind.u64.wrap ((l1.length : Int))) t233 w0 _ ?_ ?_ A3.out).mono ?_); exact bT; exact Kd.R_tight rfl HO0.out; rintro e w5 ⟨v234, rfl, ho0, hb, hkp⟩; refine ⟨_, rfl, ?_⟩; have HO235 := akk (Kd.R_mono (ok' := fun k_ => (P0_ k_ ∨ w.heap.size ≤ k_)) ho0 (fun k_ hk_ => Or.elim hk_ (fun hs_ => (HO0.out.1 k_ (hs_).symm)) (fun hn_ => (.inr (Nat.le_trans hk1 hn_))))); replace HK := hT HK hkp (fun k_ hs_ => (fun e_ => (HO0.out.1 k_ e_.symm)) hs_); replace HB := akk (hb); clear HO0; clear hb hkp ho0)
 go_loopg [0, 14] k (fun kq v0 v14 w' => ∃ (x0_1 : List Int) (x14_1 : Int), v14 = .int .i64 x14_1 ∧ Aside0 (row_Put.l0 kq x0_1 l1 (l1.length : Int) x14_1 = some r) ∧ Aside0 (kq ≤ k) ∧ Aside0 (Kd.R (Kd.int .u8) 5 w' w0.heap.size (fun k_ => (P0_ k_ ∨ w.heap.size ≤ k_)) v0 x0_1) ∧ Aside0 (Kept w w' (fun k_ => P0_ k_)) ∧ Aside0 (Below w0.heap.size w0 w'))
 case atStart => exact ⟨(t233), (0), eT, H', ⟨Nat.le_refl _⟩, ⟨rT HO235.out⟩, ⟨by repeat (first | (with_reducible first | exact HK.out | apply Kept.alloc | apply Kept.drewN | apply Kept.drew) | exact HK.out)⟩, ⟨bT⟩⟩
 case round =>
  clear H'
  obtain ⟨x0_1, x14_1, rfl, HA, HK1, HO_0, HK, HB⟩ := hrel
  cases gk with
  | zero => exact absurd HA.out (by simp [row_Put.l0])
  | succ k1 =>
   have H := HA.out
   clear HA
   simp only [row_Put.l0] at H
   by_cases c6 : x14_1 < (l1.length : Int)
   ·rw [if_pos c6] at H
    have c6b0 := decide_eq_true c6
    clear c6
    by_cases c7 : 0 ≤ x14_1
    ·rw [if_pos c7] at H
     have c7b0 := decide_eq_true c7
     clear c7
     by_cases c8 : x14_1 < (l1.length : Int)
     ·rw [if_pos c8] at H
      have c8b0 := decide_eq_true c8
      clear c8
      obtain ⟨t238, A9, H⟩ := bi H
      try dsimp only at H
      have H' := akk H
      clear H
      have p236 : 0 ≤ (x14_1 : Int) := of_decide_eq_true aT
      have q236 : x14_1 < (l1.length : Int) := of_decide_eq_true aT
      obtain ⟨ad236, e236, hx236_0, hx236_1, hx236_2, hx236_3⟩ := at_T39 (Kd.C_kept_now HR1.out HK.out) x14_1 p236 q236
      cases e236
      replace p236 := eq_true p236
      replace q236 := eq_true q236
      go_wp2_with (first | ((with_reducible refine gate_dst (N := 6) rfl ?_); refine box_event ?hg (N := 6) ?hd (cs := #[.int .i64 0, .int .i64 0, .float .f64 0, .string (⟨#[]⟩ : ByteArray)]) (t := 39) ?hr ?_; (case hd => rfl); (case hg => rfl); (case hr => first | (go_simp; done) | (go_simp; rfl)); intro gb237 hg w10 hbox hb; replace HO_0 := rb HO_0 hb; have BK237 := akk (hbox); have GW237 := akk ((by rw [hg]; exact hk1 : w.heap.size ≤ gb237)); replace HK := hB HK hb; have GE237 := gw (p := w0.heap.size ≤ gb237) hg; replace HB := bb HB hb; clear hb hbox hg; obtain ⟨hcz11_0, hcz11_1, hcz11_2, hcz11_3⟩ := cz4 BK237; obtain ⟨hfz11_0, hfz11_1, hfz11_2, hfz11_3⟩ := fz4 BK237) | ((with_reducible refine gate_store (t := 39) (p := 6) rfl ?_); refine store_event (t := 39) (p := 6) (v := ?vo_w12) (w1 := ((((w10.setCell ⟨gb237, 0, none⟩ (.int .i64 ((rd_T39 l1 x14_1).f0))).setCell ⟨gb237, 1, none⟩ (.int .i64 ((rd_T39 l1 x14_1).f1))).setCell ⟨gb237, 2, none⟩ (.float .f64 ((rd_T39 l1 x14_1).f2))).setCell ⟨gb237, 3, none⟩ (.string ((rd_T39 l1 x14_1).f3)))) ?hg ?ho ?hn ?hr ?_; (case ho => rfl); (case hg => rfl); (case hn => rfl); (case hr => first | (go_simp; done) | (go_simp; rfl)); intro w12 hw; have n0_ : Aside0 (Kd.R (Kd.int .u8) 5 w12 w0.heap.size (fun k_ => (P0_ k_ ∨ w.heap.size ≤ k_)) u0 x0_1) := ⟨(by rw [hw]; exact (rT' (Kd.R_mono (Kd.R_far (p := ⟨gb237, 3, none⟩) (Kd.R_far (p := ⟨gb237, 2, none⟩) (Kd.R_far (p := ⟨gb237, 1, none⟩) (Kd.R_far (p := ⟨gb237, 0, none⟩) (Kd.R_types HO_0.out BK237.out (by decide)) (fun _ hk => hk.2) (.int .i64 ((rd_T39 l1 x14_1).f0))) (fun _ hk => hk.2) (.int .i64 ((rd_T39 l1 x14_1).f1))) (fun _ hk => hk.2) (.float .f64 ((rd_T39 l1 x14_1).f2))) (fun _ hk => hk.2) (.string ((rd_T39 l1 x14_1).f3))) (fun _ hk => hk.1))))⟩; have n1_ : Aside0 (w12.heap[gb237]? = some (.cells #[.int .i64 ((rd_T39 l1 x14_1).f0), .int .i64 ((rd_T39 l1 x14_1).f1), .float .f64 ((rd_T39 l1 x14_1).f2), .string ((rd_T39 l1 x14_1).f3)] 39 (0, 0))) := ⟨(by rw [hw]; exact (kP BK237.out))⟩; have n2_ : Aside0 (Kept w w12 (fun k_ => P0_ k_)) := ⟨(by rw [hw]; exact (hKs GW237.out))⟩; have n3_ : Aside0 (Below w0.heap.size w0 w12) := ⟨(by rw [hw]; exact (bS GE237.out))⟩; clear hw; clear HO_0; clear BK237; clear HK; clear HB; have HO_0 := n0_; have BK237 := n1_; have HK := n2_; have HB := n3_; clear n0_ n1_ n2_ n3_; obtain ⟨hcz13_0, hcz13_1, hcz13_2, hcz13_3⟩ := cz4 BK237; obtain ⟨hfz13_0, hfz13_1, hfz13_2, hfz13_3⟩ := fz4 BK237; obtain ⟨Ao14, co14, eo14⟩ := Kd.R_slice HO_0.out; subst eo14) | (refine gT 70 (some 20) Tryz.func70 #[.slice Ao14 x0_1.length co14, .agg #[.int .i64 ((rd_T39 l1 x14_1).f0), .int .i64 ((rd_T39 l1 x14_1).f1), .float .f64 ((rd_T39 l1 x14_1).f2), .string ((rd_T39 l1 x14_1).f3)]] ?_; (with_reducible refine (value_Put.calls k1 (fun k_ => some k_ = (.slice Ao14 x0_1.length co14 : Value).ownBlock) (.slice Ao14 x0_1.length co14) x0_1 ((rd_T39 l1 x14_1).f0) ((rd_T39 l1 x14_1).f1) ((rd_T39 l1 x14_1).f2) ((rd_T39 l1 x14_1).f3) t238 w0 _ ?_ ?_ A9.out).mono ?_); exact bS GE237.out; exact Kd.R_tight rfl HO_0.out; rintro e w15 ⟨v239, rfl, ho0, hb, hkp⟩; refine ⟨_, rfl, ?_⟩; replace BK237 := akk (blk_kept (kT BK237.out) hkp (fun hs_ => (fun e_ => (Kd.R_ne HO_0.out BK237.out (by decide)) e_) hs_)); have HO240 := akk (Kd.R_mono (ok' := fun k_ => (P0_ k_ ∨ w.heap.size ≤ k_)) ho0 (fun k_ hk_ => Or.elim hk_ (fun hs_ => (HO_0.out.1 k_ (hs_).symm)) (fun hn_ => (.inr (Nat.le_trans (by first | exact HK.out.1 | exact (show Kept w _ (fun k_ => P0_ k_) from hKs GW237.out).1) hn_))))); replace HK := akk (Kept.then_ (S := (fun k_ => P0_ k_)) (hKs GW237.out) hkp (fun k_ hs_ => (fun e_ => (HO_0.out.1 k_ e_.symm)) hs_)); replace HB := akk (hb); clear HO_0; clear hb hkp ho0))
      go_roundg k1
      case measure => have := HK1.out; omega
      case rel => exact ⟨(t238), (wrap64 (x14_1 + 1)), eT, H', ⟨by have := HK1.out; omega⟩, ⟨rT HO240.out⟩, ⟨by repeat (first | (with_reducible first | exact HK.out | apply Kept.alloc | apply Kept.drewN | apply Kept.drew | refine Kept.setCell ?_ (.inr GW237.out) _) | exact HK.out)⟩, ⟨by repeat (first | (with_reducible first | exact HB.out | apply below_alloc | apply pw_below_drewN | apply below_drew1 | refine below_set ?_ GE237.out) | exact HB.out)⟩⟩
     ·rw [if_neg c8] at H
      exact absurd H (by simp)
    ·rw [if_neg c7] at H
     exact absurd H (by simp)
   ·rw [if_neg c6] at H
    have c6b0 := decide_eq_false c6
    clear c6
    obtain rfl := Option.some.inj H
    go_wp2
    go_ret
    exact ⟨_, fT, rT' HO_0.out, bT, by repeat (first | (with_reducible first | exact HK.out | apply Kept.alloc | apply Kept.drewN | apply Kept.drew) | exact HK.out)⟩
end Go.Proofs.YtgmolmpfihkolaaGreat.Pj
namespace Go.Proofs.YtgmolmpfihkolaaGreat
open Go.RowKit Go.Maps Go.WideMaps Go.Proofs.YtgmolmpfihkolaaGreatW.PrintWords Go.Proofs.YtgmolmpfihkolaaGreat.Pj
open Go.WideElems (rd_val)
open Go.ChangeShapes Go.ChangeMaps
set_option linter.unusedVariables false
set_option maxRecDepth 100000
def nm (p : PK) : ByteArray := match row_Put.f KF [] p.f1 with
 | some r => strOfNums r
 | none => ByteArray.empty
def okN (xs : List PK) : Bool := xs.all (fun p => (row_Put.f KF [] p.f1).isSome && (decide ((nm p).size ≤ maxLen) && (Lit.int .i64 p.f0).wf))
def nmeet (ys : List PK) (p : PK) : List PP := (ys.filter (fun q => decide (nm q = nm p))).map (fun q => ⟨p.f0, q.f0⟩)
def hashPairs (xs ys : List PK) : List PP := xs.flatMap (nmeet ys)
def hashF (l0 l1 : List (List (List PV))) (l2 l3 l4 : List PE) : Option (List (List (List PV)) × Int) :=
 (joins_both.f KF l0 l1 l2 l3).bind fun t => if t.2.2 = 0 then (if (okK t.1 && okK t.2.1) && (okN t.1 && okN t.2.1) then joins_told.f KF l0 l1 (hashPairs t.1 t.2.1) l4 else none) else some ([], t.2.2)
theorem okN_at {xs : List PK} (h : okN xs = true) {p : PK} (hp : p ∈ xs) : (∃ r, row_Put.f KF [] p.f1 = some r ∧ nm p = strOfNums r) ∧ (nm p).size ≤ maxLen ∧ (Lit.int .i64 p.f0).wf = true := by
 have h := List.all_eq_true.1 h p hp
 simp only [Bool.and_eq_true, decide_eq_true_eq] at h
 obtain ⟨h1, h2, h3⟩ := h
 obtain ⟨r, hr⟩ := Option.isSome_iff_exists.1 h1
 exact ⟨⟨r, hr, by unfold nm; rw [hr]⟩, h2, h3⟩
abbrev DU := DataW Unit
def klOf (s : ByteArray) : Lit := .string s.data.toList
theorem klOf_inj {s t : ByteArray} (h : klOf s = klOf t) : s = t := by
 unfold klOf at h
 injection h with h
 obtain ⟨a⟩ := s
 obtain ⟨b⟩ := t
 congr 1
 exact Array.toList_inj.1 h
def itemsD : DU → List Int
 | .slice ls _ => ls.map (fun d => match d with | .lit (.int _ z) => z | _ => 0)
 | _ => []
def HoldsM (ys : List PK) (D : DU) : Prop := IsMap D ∧ ∀ s : ByteArray, itemsD (D.atKey (klOf s) .nil) = (ys.filter (fun q => decide (nm q = s))).map (fun q => q.f0)
theorem itemsD_lits (zs : List Int) : itemsD (.slice (lits .i64 zs) []) = zs := by
 unfold itemsD lits
 simp only [List.map_map]
 exact (List.map_congr_left (fun _ _ => rfl)).trans (List.map_id _)
theorem HoldsM.start : HoldsM [] (.map []) := ⟨isMap_empty, fun s => rfl⟩
theorem HoldsM.read {ys : List PK} {D : DU} (h : HoldsM ys D) {s : ByteArray} {w : World} {base : Nat} {e : TypeId} {v : Value} {zs : List Int} (hat : D.atKey (klOf s) .nil = rowDatum .i64 v zs) (hoi : w.ownsInts base e .i64 v zs) : zs = (ys.filter (fun q => decide (nm q = s))).map (fun q => q.f0) := by
 have := h.2 s
 rw [hat] at this
 rcases hoi.datum (H := Unit) with ⟨e1, e2⟩ | e1
 ·rw [e1] at this
  rw [e2]; exact this
 ·rw [e1, itemsD_lits] at this
  exact this
theorem HoldsM.step {ys : List PK} {D : DU} (h : HoldsM ys D) {q : PK} {w : World} {base : Nat} {e : TypeId} {v' : Value} {zs : List Int} (hz : zs = (ys.filter (fun q' => decide (nm q' = nm q))).map (fun q => q.f0)) (hoi : w.ownsInts base e .i64 v' (zs ++ [q.f0])) :
 HoldsM (ys ++ [q]) (D.put (klOf (nm q)) (rowDatum .i64 v' (zs ++ [q.f0]))) := by
 refine ⟨?_, fun s => ?_⟩
 ·obtain ⟨es, rfl⟩ := h.1
  exact ⟨_, rfl⟩
 ·rw [List.filter_append, List.map_append]
  by_cases e1 : nm q = s
  ·subst e1
   rw [atKey_put_same h.1 (show WideAt.IsKeyLit (klOf (nm q)) from trivial), hoi.datum_pos (by simp), itemsD_lits, ← hz]
   simp
  ·rw [atKey_put_other (fun e2 => e1 (klOf_inj e2).symm), h.2 s]
   simp [e1]
theorem Below.none {w w' : World} (hb : Below w.heap.size w w') : w.grownBy w' none := ⟨hb.os, hb.tape, hb.output, hb.size, fun k hk _ => hb.block k hk⟩
abbrev GrW (W : World) (B n : Nat) (D : DU) : Prop := W.ownsGroups (H := Unit) Tryz.prog 9 (B + 1) 3 .i64 B n D
theorem GrW.below {W W' : World} {B n : Nat} {D : DU} (h : GrW W B n D) (hb : Below W.heap.size W W') : GrW W' B n D :=
 World.ownsGroups.kept h (Below.none hb) (by simp) (fun _ _ _ x _ => by cases x.val.ownBlock <;> simp)
theorem int_row_typed {W : World} {base : Nat} {v : Value} {zs : List Int} (h : W.ownsInts base 3 .i64 v zs) : ∀ g, v.ownBlock = some g → ∃ cells, W.heap[g]? = some (.cells cells 3 (0, 0)) := fun g hg => own_typed h.1 g hg
theorem cells_ne {W : World} {g : Nat} {c1 c2 : Array Value} {t1 t2 : TypeId} (h1 : W.heap[g]? = some (.cells c1 t1 (0, 0))) (h2 : W.heap[g]? = some (.cells c2 t2 (0, 0))) (ht : t1 ≠ t2) : False := by
 rw [h1] at h2
 injection h2 with h2
 injection h2 with _ h2
 exact ht h2
theorem GrW.far {W W' : World} {B n base : Nat} {D : DU} {ok : Nat → Prop} {v : Value} {out : List PP} (h : GrW W B n D) (hr : RP W base ok v out) (hg : W.grownBy W' v.ownBlock) : GrW W' B n D := by
 refine World.ownsGroups.kept h hg ?_ ?_
 ·intro e
  obtain ⟨es, clock, hb, _⟩ := h
  obtain ⟨cells, hc⟩ := Kd.R_typed hr B e.symm
  rw [hb] at hc
  cases hc
 ·intro es clock hb x hx
  obtain ⟨es', clock', hb', F, _⟩ := h
  obtain ⟨rfl, rfl⟩ : es' = es ∧ clock' = clock := by rw [hb'] at hb; simpa using hb
  obtain ⟨y, hy⟩ := F.reads x hx
  obtain ⟨z, hz, _⟩ := rd_val hy
  obtain ⟨zs, hoi, _⟩ := rowElem_inv hz
  cases hx' : x.val.ownBlock with
  | none => exact .inl rfl
  | some g =>
   refine .inr (fun e => ?_)
   obtain ⟨c1, h1⟩ := int_row_typed hoi g hx'
   obtain ⟨c2, h2⟩ := Kd.R_typed hr g e.symm
   exact cells_ne h1 h2 (by decide)
theorem ints_far {W W' : World} {b0 base : Nat} {ok : Nat → Prop} {v u : Value} {zs : List Int} {out : List PP} (h : W.ownsInts b0 3 .i64 u zs) (hr : RP W base ok v out) (hg : W.grownBy W' v.ownBlock) : W'.ownsInts b0 3 .i64 u zs := by
 refine h.kept hg ?_
 cases hu : u.ownBlock with
 | none => exact .inl rfl
 | some g =>
  refine .inr (fun e => ?_)
  obtain ⟨c1, h1⟩ := int_row_typed h g hu
  obtain ⟨c2, h2⟩ := Kd.R_typed hr g e.symm
  exact cells_ne h1 h2 (by decide)
theorem ints_slice {W : World} {b0 : Nat} {u : Value} {zs : List Int} (h : W.ownsInts b0 3 .i64 u zs) : ∃ A c, u = .slice A zs.length c ∧ ∀ i z, zs[i]? = some z → ∃ g, A = some ⟨g, 0, none⟩ ∧ W.cell? ⟨g, i, none⟩ = some (.int .i64 z) := by
 rcases h.1.2 with ⟨rfl, h0⟩ | ⟨g, cap, cur, rfl, _⟩
 ·refine ⟨none, 0, by rw [h0], fun i z hi => ?_⟩
  obtain rfl : zs = [] := List.length_eq_zero_iff.1 h0
  simp at hi
 ·refine ⟨_, cap, rfl, fun i z hi => ⟨g, rfl, ?_⟩⟩
  have hl := (List.getElem?_eq_some_iff.1 hi).1
  have := h.1.cellAt i (by omega)
  rw [this, List.getElem?_map, hi]
  rfl
theorem ints_cell {W : World} {b0 n c : Nat} {A : Option Addr} {zs : List Int} (h : W.ownsInts b0 3 .i64 (.slice A n c) zs) {i : Nat} {z : Int} (hi : zs[i]? = some z) : ∃ g, A = some ⟨g, 0, none⟩ ∧ W.cell? ⟨g, i, none⟩ = some (.int .i64 z) := by
 obtain ⟨A', c', e, hc⟩ := ints_slice h
 injection e with e1 e2 e3
 subst e1
 exact hc i z hi
theorem zeroInts (w : World) : (zeroValue 36).run Tryz.prog w = .ok (.slice none 0 0) w := by kernel_rfl
theorem infoInt : (Tryz.prog.info? 3).map (fun i => (i.zero, i.size, i.bytes)) = some (some (.int .i64 0), 1, 8) := by kernel_rfl
theorem keyLaw : Keyed Tryz.prog 9 := string_keyed Tryz.underlying9
theorem keyAt_mk {s : ByteArray} (h : s.size ≤ maxLen) : keyOf Tryz.prog 9 (.string s) = some (klOf s) := keyOf_string_mk Tryz.underlying9 h
theorem put_any {w : World} {A : Option Addr} {n c : Nat} {l : List PV} {r : List Int} (hn : l.length = n) (h : Kd.C k39 w A n l) (hc : n ≤ c) (hr : row_Put.f KF [] l = some r) :
 Calls Tryz.prog 42 #[.slice none 0 0, .slice A n c] w fun e w' => ∃ v, e = .returned v ∧ (convert 81 9 v).run Tryz.prog w' = .ok (.string (strOfNums r)) w' ∧ Below w.heap.size w w' := by
 subst hn
 refine (row_Put.calls KF (fun _ => False) (.slice none 0 0) [] A c l r w w (Below.refl _ _) (Kd.R_nil _ _ _ _ _) (Kd.C_kept_came k39_heap h (Below.refl _ _) (fun _ h => h.elim)) hc hr).mono ?_
 rintro e w' ⟨v, rfl, h1, h2, _⟩
 exact ⟨v, rfl, own_string Tryz.underlying81 Tryz.underlying5 Tryz.underlying9 (Kd.own_of_R h1), h2⟩
end Go.Proofs.YtgmolmpfihkolaaGreat
namespace Go.Proofs.YtgmolmpfihkolaaGreat
open Go.RowKit Go.Proofs.YtgmolmpfihkolaaGreatW.PrintWords Go.Proofs.YtgmolmpfihkolaaGreatW.PrintMore Go.Proofs.YtgmolmpfihkolaaGreat.Pj
set_option linter.unusedVariables false
set_option maxRecDepth 100000
theorem toList_loop (bs : ByteArray) : ∀ (n i : Nat) (r : List UInt8), bs.size - i = n → ByteArray.toList.loop bs i r = r.reverse ++ bs.data.toList.drop i
 | 0, i, r, h => by
  unfold ByteArray.toList.loop
  rw [if_neg (by omega), List.drop_of_length_le (by rw [Array.length_toList]; show bs.size ≤ i; omega), List.append_nil]
 | n + 1, i, r, h => by
  have hi : i < bs.data.toList.length := by rw [Array.length_toList]; show i < bs.size; omega
  unfold ByteArray.toList.loop
  rw [if_pos (by omega), toList_loop bs n (i + 1) _ (by omega), List.drop_eq_getElem_cons hi, List.reverse_cons, List.append_assoc]
  have e : bs.get! i = bs.data.toList[i] := by
   show bs.data[i]! = _
   rw [getElem!_pos bs.data i (by simpa using hi)]
   simp
  rw [e]; rfl
theorem toList_data (bs : ByteArray) : bs.toList = bs.data.toList := by
 unfold ByteArray.toList
 rw [toList_loop bs _ 0 [] rfl]; rfl
theorem toList_one {a b : ByteArray} (h : a.toList = b.toList) : a = b := by
 rw [toList_data, toList_data] at h
 obtain ⟨a⟩ := a
 obtain ⟨b⟩ := b
 congr 1
 exact Array.toList_inj.1 h
def encU (n : Nat) : List Int := if h : n < 128 then [(n : Int)] else ((n % 128 + 128 : Nat) : Int) :: encU (n / 128)
termination_by n
theorem encU_small {n : Nat} (h : n < 128) : encU n = [(n : Int)] := by rw [encU, dif_pos h]
theorem encU_great {n : Nat} (h : ¬ n < 128) : encU n = ((n % 128 + 128 : Nat) : Int) :: encU (n / 128) := by rw [encU, dif_neg h]
theorem encU_one : ∀ (n m : Nat) (r s : List Int), encU n ++ r = encU m ++ s → n = m ∧ r = s := by
 intro n
 induction n using Nat.strongRecOn with
 | ind n ih =>
  intro m r s h
  by_cases h1 : n < 128 <;> by_cases h2 : m < 128
  ·rw [encU_small h1, encU_small h2] at h
   simp only [List.cons_append, List.nil_append, List.cons.injEq] at h
   exact ⟨by omega, h.2⟩
  ·rw [encU_small h1, encU_great h2] at h
   simp only [List.cons_append, List.nil_append, List.cons.injEq] at h
   omega
  ·rw [encU_great h1, encU_small h2] at h
   simp only [List.cons_append, List.nil_append, List.cons.injEq] at h
   omega
  ·rw [encU_great h1, encU_great h2] at h
   simp only [List.cons_append, List.cons.injEq] at h
   obtain ⟨e1, e2⟩ := h
   obtain ⟨e3, e4⟩ := ih (n / 128) (by omega) (m / 128) r s e2
   exact ⟨by omega, e4⟩
theorem encU_bytes : ∀ (n : Nat) (z : Int), z ∈ encU n → 0 ≤ z ∧ z < 256 := by
 intro n
 induction n using Nat.strongRecOn with
 | ind n ih =>
  intro z hz
  by_cases h1 : n < 128
  ·rw [encU_small h1] at hz
   have : z = (n : Int) := by simpa using hz
   omega
  ·rw [encU_great h1] at hz
   rcases List.mem_cons.1 hz with e | hz
   ·omega
   ·exact ih (n / 128) (by omega) z hz
theorem encU_length : ∀ (k n : Nat), n < 128 ^ (k + 1) → (encU n).length ≤ k + 1
 | 0, n, h => by rw [encU_small (by simpa using h)]; simp
 | k + 1, n, h => by
  by_cases h1 : n < 128
  ·rw [encU_small h1]; simp
  ·rw [encU_great h1, List.length_cons]
   have := encU_length k (n / 128) (by
    rw [Nat.pow_succ] at h
    exact Nat.div_lt_of_lt_mul (by rw [Nat.mul_comm]; exact h))
   omega
theorem or128 (m : Nat) (h : m < 256) : Go.bits .or .u8 (m : Int) 128 = ((m % 128 + 128 : Nat) : Int) := by
 have : ∀ i : Fin 256, Go.bits .or .u8 ((i.val : Nat) : Int) 128 = ((i.val % 128 + 128 : Nat) : Int) := by decide
 exact this ⟨m, h⟩
theorem putUint_go : ∀ (k n : Nat) (b : List Int), n < 128 ^ (k + 1) → b.length + k + 1 < 140737488355328 → ∀ K, k < K → codec_PutUint.l0 K b (n : Int) = some (b ++ encU n)
 | k, n, b, hn, hb, 0, hK => by omega
 | k, n, b, hn, hb, K + 1, hK => by
  rw [codec_PutUint.l0]
  by_cases h1 : n < 128
  ·rw [if_neg (by omega), if_pos (by omega), encU_small h1, show ((n : Int)) % 256 = (n : Int) by omega]
  ·rw [if_pos (by omega), if_pos (by omega), encU_great h1]
   have e1 : ((n : Int)) % 256 = ((n % 256 : Nat) : Int) := by omega
   have e2 : ((n : Int)) / 128 = ((n / 128 : Nat) : Int) := by omega
   rw [e1, e2, or128 _ (Nat.mod_lt _ (by omega)), show n % 256 % 128 = n % 128 by omega]
   cases k with
   | zero => simp at hn; omega
   | succ k =>
    rw [putUint_go k (n / 128) _ (by
     rw [Nat.pow_succ] at hn
     exact Nat.div_lt_of_lt_mul (by rw [Nat.mul_comm]; exact hn)) (by rw [List.length_append, List.length_singleton]; omega) K (by omega)]
    rw [List.append_assoc]; rfl
theorem putUint_f (K : Nat) (hK : 20 ≤ K) (n : Nat) (b : List Int) (hn : n < 18446744073709551616) (hb : b.length < 100000000000000) : codec_PutUint.f K b (n : Int) = some (b ++ encU n) := by
 unfold codec_PutUint.f
 exact putUint_go 9 n b (Nat.lt_of_lt_of_le hn (by decide)) (by omega) K (by omega)
def zig (n : Int) : Nat := if n < 0 then (-(2 * n) - 1).toNat else (2 * n).toNat
theorem zig_one {a b : Int} (h : zig a = zig b) : a = b := by
 unfold zig at h
 split at h <;> split at h <;> omega
theorem xorMax (m : Nat) (h : m < 18446744073709551616) : Go.bits .xor .u64 IntKind.u64.max (m : Int) = ((18446744073709551615 - m : Nat) : Int) := by
 have e : IntKind.u64.max = ((18446744073709551615 : Nat) : Int) := by decide
 rw [e]
 unfold Go.bits
 simp only [BitVec.ofInt_natCast]
 have hb : (BitVec.ofNat 64 18446744073709551615 ^^^ BitVec.ofNat 64 m) = ~~~ (BitVec.ofNat 64 m) := by
  have : BitVec.ofNat 64 18446744073709551615 = BitVec.allOnes 64 := by decide
  rw [this, BitVec.allOnes_xor]
 show IntKind.u64.wrap ((BitVec.ofNat 64 18446744073709551615 ^^^ BitVec.ofNat 64 m).toNat : Int) = _
 rw [hb, BitVec.toNat_not, BitVec.toNat_ofNat, Nat.mod_eq_of_lt h, IntKind.wrap_u64]
 omega
end Go.Proofs.YtgmolmpfihkolaaGreat
