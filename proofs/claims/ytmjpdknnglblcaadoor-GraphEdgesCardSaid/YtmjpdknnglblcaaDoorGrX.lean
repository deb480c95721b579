/- The walk of graph.Splits. -/
import Derived.Test.YtmjpdknnglblcaaDoorGrV
import Derived.Test.YtmjpdknnglblcaaDoorGrB
namespace Go.Proofs.YtmjpdknnglblcaaDoor
open Go.RowKit
open Gr Go.Deep
set_option maxRecDepth 100000
attribute [local go_sem] Oper.semAt_some

theorem Row32.store {W : World} {b x : Nat} {zs : List Nat} {p : Option Addr} {l c : Nat} {v : Value} (h : Row32 W b 0 zs) (hc : W.cell? ⟨x, 0, none⟩ = some (.slice p l c)) : Row32 (W.setCell ⟨x, 0, none⟩ v) b 0 zs := by
  intro i hi
  have hz := h i hi
  rw [World.cell?_setCell_other W _ _ _ (show (⟨x, 0, none⟩ : Addr) ≠ ⟨b, 0 + i, none⟩ by
    intro h'
    rw [← h', hc] at hz
    cases hz)]
  exact hz

/-- What stands behind the even edges' store. -/
def SplW (w : World) (s n B : Nat) (zs : List Nat) (Bo : Nat) (W : World) : Prop :=
  Below w.heap.size w W ∧ w.heap.size + 1 < Bo ∧ Bo ≤ W.heap.size ∧ W.cell? ⟨w.heap.size, 0, none⟩ = some (.slice (some ⟨B, 0, none⟩) n n) ∧ W.cell? ⟨w.heap.size + 1, 0, none⟩ = some (.int .u32 s) ∧ Row32 W B 0 zs ∧ (zs = [] ∨ B < Bo)
theorem SplW.below {w W W' : World} {s n B Bo : Nat} {zs : List Nat} (h : SplW w s n B zs Bo W) (hb : Below Bo W W') : SplW w s n B zs Bo W' := by
  obtain ⟨h1, h2, h3, h4, h5, h6, h7⟩ := h
  refine ⟨h1.trans (hb.mono (by omega)), h2, Nat.le_trans h3 hb.size, (hb.cell (p := ⟨w.heap.size, 0, none⟩) (by simp; omega)).trans h4, (hb.cell (p := ⟨w.heap.size + 1, 0, none⟩) (by simp; omega)).trans h5, ?_, h7⟩
  rcases h7 with e | e
  · subst e; intro i hi; cases hi
  · exact h6.below hb e
theorem SplW.row {w W : World} {s n B Bo : Nat} {zs : List Nat} (h : SplW w s n B zs Bo W) : Row32 W B 0 zs := h.2.2.2.2.2.1
theorem SplW.set {w W : World} {s n B Bo : Nat} {zs : List Nat} (h : SplW w s n B zs Bo W) : W.cell? ⟨w.heap.size + 1, 0, none⟩ = some (.int .u32 s) := h.2.2.2.2.1
theorem SplW.edges {w W : World} {s n B Bo : Nat} {zs : List Nat} (h : SplW w s n B zs Bo W) : W.cell? ⟨w.heap.size, 0, none⟩ = some (.slice (some ⟨B, 0, none⟩) n n) := h.2.2.2.1
theorem SplW.start {w w1 : World} {a : Option Addr} {len cap s n B : Nat} {zs : List Nat} {t1 t2 : TypeId} (hr : Row32 w1 B 0 zs)
    (hb : Below ((w.alloc (.cells #[.slice a len cap] t1)).alloc (.cells #[.int .u32 s] t2)).heap.size ((w.alloc (.cells #[.slice a len cap] t1)).alloc (.cells #[.int .u32 s] t2)) w1) :
    SplW w s n B zs w1.heap.size (w1.setCell ⟨w.heap.size, 0, none⟩ (.slice (some ⟨B, 0, none⟩) n n)) ∧ w1.cell? ⟨w.heap.size, 0, none⟩ = some (.slice a len cap) ∧ w1.frozen? ⟨w.heap.size, 0, none⟩ = false ∧ w1.cell? ⟨w.heap.size + 1, 0, none⟩ = some (.int .u32 s) := by
  have hz : ((w.alloc (.cells #[.slice a len cap] t1)).alloc (.cells #[.int .u32 s] t2)).heap.size = w.heap.size + 2 := by simp
  rw [hz] at hb
  have hsz := hb.size
  rw [hz] at hsz
  have o1 : w1.heap[w.heap.size]? = some (.cells #[.slice a len cap] t1) :=
    (hb.block _ (by omega)).trans ((Below.heap_alloc _ _ _ (by simp)).trans (World.alloc_heap_new w _))
  have o2 : w1.heap[w.heap.size + 1]? = some (.cells #[.int .u32 s] t2) := by
    refine (hb.block _ (by omega)).trans ?_
    have := World.alloc_heap_new (w.alloc (.cells #[.slice a len cap] t1)) (.cells #[.int .u32 s] t2)
    rwa [World.size_alloc] at this
  have c1 : w1.cell? ⟨w.heap.size, 0, none⟩ = some (.slice a len cap) := by simp only [World.cell?]; rw [o1]; simp
  have c2 : w1.cell? ⟨w.heap.size + 1, 0, none⟩ = some (.int .u32 s) := by simp only [World.cell?]; rw [o2]; simp
  have f1 : w1.frozen? ⟨w.heap.size, 0, none⟩ = false := by simp only [World.frozen?]; rw [o1]; simp
  have hb1 : Below w.heap.size w w1 := (((Below.refl _ w).alloc (Nat.le_refl _) _).alloc (by simp) _).trans (hb.mono (by omega))
  refine ⟨⟨hb1.trans ((Below.refl _ w1).setCell (p := ⟨w.heap.size, 0, none⟩) (Nat.le_refl _) _), by omega, by simp, World.cell?_setCell_same' _ _ _ (by rw [c1]; rfl), ?_, hr.store c1, ?_⟩, c1, f1, c2⟩
  · rw [World.cell?_setCell_other w1 _ _ _ (by intro h'; have := congrArg Addr.block h'; simp at this)]; exact c2
  · cases zs with
    | nil => exact .inl rfl
    | cons z zs => exact .inr (block_lt (hr 0 (by simp)))

theorem ownsRow_congr {w w' : World} {b : Nat} {e : TypeId} {size : Nat} {v : Value} {n : Nat} {xs : List Value} (h : w.ownsRow b e size v n xs) (hk : ∀ g o, b ≤ g → w.heap[g]? = some o → o.isCells = true → v.ownBlock = some g → w'.heap[g]? = some o) : w'.ownsRow b e size v n xs := by
  obtain ⟨h1, h2 | ⟨g, cap, cur, h3, h4, h5, h6⟩⟩ := h
  · exact ⟨h1, .inl h2⟩
  · exact ⟨h1, .inr ⟨g, cap, cur, h3, h4, hk g _ h4 h5 rfl (by rw [h3]; rfl), h6⟩⟩

theorem ownsRow_slice {w : World} {b : Nat} {e : TypeId} {size : Nat} {v : Value} {n : Nat} {xs : List Value} (h : w.ownsRow b e size v n xs) : ∃ a k c, v = .slice a k c := by
  obtain ⟨h1, ⟨h2, _⟩ | ⟨g, cap, cur, h3, _⟩⟩ := h
  · exact ⟨_, _, _, h2⟩
  · exact ⟨_, _, _, h3⟩

def flatP (l : List (Nat × Nat)) : List Value := l.flatMap fun p => [U32 p.1, U32 p.2]
theorem flatP_snoc (l : List (Nat × Nat)) (p : Nat × Nat) : flatP (l ++ [p]) = flatP l ++ [U32 p.1, U32 p.2] := by simp [flatP]

/-- What stands ahead of a round. -/
def SplI (w : World) (s n B : Nat) (A : Nat → Nat → Bool) (Bo sub : Nat) (W : World) : Prop :=
  SplW w s n B (evL n A) Bo W ∧ Bo + 1 < W.heap.size ∧ ∃ v, W.cell? ⟨Bo, 0, none⟩ = some v ∧ W.frozen? ⟨Bo, 0, none⟩ = false ∧ W.ownsRow (Bo + 2) 27 2 v (splitsTo n A s sub).length (flatP (splitsTo n A s sub))

theorem SplI.own {w : World} {s n B : Nat} {A : Nat → Nat → Bool} {Bo : Nat} : OwnAt (Bo + 2) (fun sub W => SplI w s n B A Bo sub W) where
  alloc := by
    rintro sub W o ⟨h1, h2, v, h3, h4, h5⟩
    have hb : Below (Bo + 1) W (W.alloc o) := (Below.refl _ _).alloc (by omega) o
    exact ⟨h1.below (hb.mono (by omega)), Nat.lt_of_lt_of_le h2 hb.size, v, (hb.cell (p := ⟨Bo, 0, none⟩) (by simp)).trans h3, (hb.frozen (p := ⟨Bo, 0, none⟩) (by simp)).trans h4, h5.alloc o⟩
  putObj := by
    rintro sub W l o o' ⟨h1, h2, v, h3, h4, h5⟩ hl hc hB
    have hb : Below (Bo + 1) W (W.putObj l o') := (Below.refl _ _).grown (grownBy_putObj' _ _ o') (by omega) (fun k e => by cases e; omega)
    refine ⟨h1.below (hb.mono (by omega)), Nat.lt_of_lt_of_le h2 hb.size, v, (hb.cell (p := ⟨Bo, 0, none⟩) (by simp)).trans h3, (hb.frozen (p := ⟨Bo, 0, none⟩) (by simp)).trans h4, ownsRow_congr h5 (fun g o2 _ hg ho _ => ?_)⟩
    rw [World.putObj_heap_other (by intro e; subst e; rw [hl] at hg; cases hg; rw [hc] at ho; cases ho)]
    exact hg

theorem SplI.start {w W2 : World} {s n B : Nat} {A : Nat → Nat → Bool} {t1 t2 : TypeId} (h : SplW w s n B (evL n A) W2.heap.size W2) :
    let W4 := (W2.alloc (.cells #[.slice none 0 0] t1)).alloc (.cells #[.int .u32 s] t2)
    SplI w s n B A W2.heap.size 0 W4 ∧ AtParts (W2.heap.size + 1) s W4 ∧ W4.heap.size = W2.heap.size + 2 := by
  intro W4
  have hz : W4.heap.size = W2.heap.size + 2 := by simp [W4]
  have hb : Below W2.heap.size W2 W4 := ((Below.refl _ _).alloc (Nat.le_refl _) _).alloc (by simp) _
  have o1 : W4.heap[W2.heap.size]? = some (.cells #[.slice none 0 0] t1) := (Below.heap_alloc _ _ _ (by simp)).trans (World.alloc_heap_new W2 _)
  have o2 : W4.heap[W2.heap.size + 1]? = some (.cells #[.int .u32 s] t2) := by
    have := World.alloc_heap_new (W2.alloc (.cells #[.slice none 0 0] t1)) (.cells #[.int .u32 s] t2)
    rwa [World.size_alloc] at this
  refine ⟨⟨h.below hb, by omega, .slice none 0 0, by simp only [World.cell?]; rw [o1]; simp, by simp only [World.frozen?]; rw [o1]; simp, World.ownsRow_nil _ _ _ _⟩, ⟨by simp only [World.cell?]; rw [o2]; simp, by simp only [World.frozen?]; rw [o2]; simp⟩, hz⟩

theorem SplI.next {w W : World} {s n B : Nat} {A : Nat → Nat → Bool} {Bo sub sub' : Nat} (h : SplI w s n B A Bo sub W) (e : splitsTo n A s sub' = splitsTo n A s sub) : SplI w s n B A Bo sub' W := by
  obtain ⟨h1, h2, v, h3, h4, h5⟩ := h
  exact ⟨h1, h2, v, h3, h4, by rw [e]; exact h5⟩

/-- Behind 'out = append(out, p)', out being captured. -/
theorem SplI.told {w W w' : World} {s n B : Nat} {A : Nat → Nat → Bool} {Bo sub sub' : Nat} {v v' : Value} {t : TypeId} {cs : Array Value} {q : Nat × Nat} {k : Nat} {xs : List Value} (h : SplI w s n B A Bo sub W) (ha : AtParts (Bo + 1) s W)
    (hc : W.cell? ⟨Bo, 0, none⟩ = some v) (_hq : splitsTo n A s sub' = splitsTo n A s sub ++ [q]) (hk : k = (splitsTo n A s sub').length) (hxs : xs = flatP (splitsTo n A s sub'))
    (hown : w'.ownsRow (Bo + 2) 27 2 v' k xs) (hg : (W.alloc (.cells cs t)).grownBy w' v.ownBlock) :
    KeepsOthers W (w'.setCell ⟨Bo, 0, none⟩ v') ∧ SplI w s n B A Bo sub' (w'.setCell ⟨Bo, 0, none⟩ v') ∧ AtParts (Bo + 1) s (w'.setCell ⟨Bo, 0, none⟩ v') := by
  obtain ⟨h1, h2, v0, h3, h4, h5⟩ := h
  rw [hc] at h3; cases h3
  have hblk : ∀ g, v.ownBlock = some g → Bo + 2 ≤ g := fun g => ownsRow_block h5 g
  have hb : Below (Bo + 2) W w' := ((Below.refl _ W).alloc (by omega) _).grown hg (by simp; omega) hblk
  have hco : KeepsOthers (W.alloc (.cells cs t)) w' := KeepsOthers.of_grownBy hg (fun j o hj ho => by
    obtain ⟨_, ⟨e, _⟩ | ⟨g, cap, cur, e, _, e2, _⟩⟩ := h5
    · rw [e] at hj; cases hj
    · rw [e] at hj; cases hj
      have hg' : g < W.heap.size := (Array.getElem?_eq_some_iff.1 e2).1
      rw [Below.heap_alloc _ _ _ hg', e2] at ho
      cases ho; rfl)
  have hb2 : Below Bo w' (w'.setCell ⟨Bo, 0, none⟩ v') := (Below.refl _ _).setCell (p := ⟨Bo, 0, none⟩) (Nat.le_refl _) _
  have hcw : w'.cell? ⟨Bo, 0, none⟩ = some v := (hb.cell (p := ⟨Bo, 0, none⟩) (by simp)).trans hc
  refine ⟨((KeepsOthers.alloc W _).trans hco).trans (KeepsOthers.setCell _ _ _), ⟨h1.below ((hb.mono (by omega)).trans hb2), Nat.lt_of_lt_of_le h2 (Nat.le_trans hb.size hb2.size), v', World.cell?_setCell_same' _ _ _ (by rw [hcw]; rfl),
    (World.frozen?_setCell _ _ _ _).trans ((hb.frozen (p := ⟨Bo, 0, none⟩) (by simp)).trans h4), ?_⟩, ?_, ?_⟩
  · rw [← hk, ← hxs]
    refine ownsRow_congr hown (fun g o hge hgo _ _ => ?_)
    exact (Go.Deep.blk_setCell_other _ _ _ _ (by simp; omega)).trans hgo
  · rw [World.cell?_setCell_other w' _ _ _ (by intro h'; have := congrArg Addr.block h'; simp at this)]
    exact (hb.cell (p := ⟨Bo + 1, 0, none⟩) (by simp)).trans ha.1
  · exact (World.frozen?_setCell _ _ _ _).trans ((hb.frozen (p := ⟨Bo + 1, 0, none⟩) (by simp)).trans ha.2)

theorem info27 : (Tryd.prog.info? 27).map (fun i => (i.zero, i.size, i.bytes)) = some (some (.agg #[.int .u32 0, .int .u32 0]), 2, 8) := by kernel_rfl

set_option maxHeartbeats 1000000 in
theorem Splits_in (a : Option Addr) (len cap s : Nat) (es : List Nat) (w : World) (h : EdgesAt w a len cap es) (hT : TabAt w) (hs32 : s < 4294967296) (h8 : es.length ≤ 8) :
    CallsIn Fence.wide 20 Tryd.prog 8 #[.slice a len cap, .int .u32 s] w fun e w' => ∃ v, e = .returned v ∧ w'.ownsRow w.heap.size 27 2 v (splitsL es.length (adj es es.length) s).length (flatP (splitsL es.length (adj es es.length) s)) ∧ Below w.heap.size w w' := by
  have hn := h.le12
  obtain ⟨i0, hi, hz0, hz1, hz2⟩ := info_parts info27
  have HE := Lib.hid (fun W hb => even_any a len cap es W (h.later hb) (hT.later hb))
  obtain ⟨n, hn'⟩ : ∃ n, n = es.length := ⟨_, rfl⟩
  rw [← hn'] at HE hn h8 ⊢
  clear h hn'
  generalize adj es n = A at *
  refine callsIn_of_wp_marks Tryd.func8 rfl trivial ?_ rfl
  simp only [Tryd.ntmps8, List.size_toArray, List.length_cons, List.length_nil, Nat.reduceAdd, Nat.reduceSub, Array.replicate_succ, Array.replicate_zero, List.push_toArray, List.append_toArray, List.nil_append, List.cons_append]
  gi_wp2_with (first | (refine ⟨trivial, ?_⟩; refine (callsIn_wide.2 (HE.out _ (((Below.refl _ w).alloc (Nat.le_refl _) _).alloc (by simp) _))).mono ?_; rintro e w1 ⟨B, rfl, hrow, hb⟩; have HS := Lib.hid (SplW.start (n := n) hrow hb); clear hrow hb; have hc1 := HS.out.2.1; have hf1 := HS.out.2.2.1; have hc2 := HS.out.2.2.2) | (refine ⟨trivial, ?_⟩; refine (parts_in _ _ _).mono ?_; rintro e w' ⟨rfl, rfl⟩))
  refine ⟨trivial, ?_⟩
  have hrow := HS.out.1.row
  refine (callsIn_wide.2 (connected_any B 0 n n s A _ hrow hn (by omega))).mono ?_
  rintro e w' ⟨rfl, rfl⟩
  obtain ⟨W2, hW2⟩ : ∃ W2, w1.setCell ⟨w.heap.size, 0, none⟩ (.slice (some ⟨B, 0, none⟩) n n) = W2 := ⟨_, rfl⟩
  have HS2 := HS.out.1
  have hz2 : w1.heap.size = W2.heap.size := by rw [← hW2]; simp
  rw [hW2, hz2] at HS2
  rw [hW2]
  clear HS hc1 hf1 hc2 hW2 hz2
  have hc3 := HS2.set
  have hlt2 : w.heap.size + 1 < W2.heap.size := HS2.2.1
  have HS3 := Lib.hid HS2
  clear HS2 hrow
  by_cases hcon : connB n A s = true
  · gi_wp2_with (refine ⟨trivial, ?_⟩; refine (parts_in _ _ _).mono ?_; rintro e w' ⟨rfl, rfl⟩)
    have h0 : s ≠ 0 := by intro e; subst e; simp [connB] at hcon
    have hs : s < 256 := by
      have h1 : s < 2 ^ n := by unfold connB at hcon; simp only [Bool.and_eq_true, decide_eq_true_eq] at hcon; exact hcon.1.2
      have h2 : 2 ^ n ≤ 2 ^ 8 := Nat.pow_le_pow_right (by omega) h8
      omega
    clear hs32
    obtain ⟨W4, hW4⟩ : ∃ W4, ((W2.alloc (.cells #[.slice none 0 0] 25)).alloc (.cells #[.int .u32 s] 23)) = W4 := ⟨_, rfl⟩
    have hst : SplI w s n B A W2.heap.size 0 W4 ∧ AtParts (W2.heap.size + 1) s W4 ∧ W4.heap.size = W2.heap.size + 2 := by
      rw [← hW4]; exact SplI.start HS3.out
    rw [hW4]
    have HW4 := Lib.hid hW4
    clear hW4
    refine wpIn_rangeParts (n := 20) (Bs := W2.heap.size + 1) (e := s) (by omega) h0 hs rfl (fun sub W' => SplI w s n B A W2.heap.size sub W')
      (by rw [hst.2.2]; exact SplI.own) hst.1 hst.2.1 
      (fun x => { tmps := #[.slice a len cap, .int .u32 s, .pointer (some ⟨w.heap.size, 0, none⟩), .pointer (some ⟨w.heap.size + 1, 0, none⟩), .slice none 0 0, .pointer (some ⟨W2.heap.size, 0, none⟩), .int .u32 x, .slice a len cap, .slice (some ⟨B, 0, none⟩) n n, .slice (some ⟨B, 0, none⟩) n n, .int .u32 s, .bool true, .bool false, .int .u32 s, .func (.func 37) #[] #[.pointer (some ⟨W2.heap.size + 1, 0, none⟩)], .int .u32 x, undef, undef, undef, undef, undef, undef, undef, undef, undef, undef, undef, undef, undef, undef, undef, undef, undef, undef, undef], defers := [] }) ?assign ?body ?done
    case assign =>
      intro l x W' K hK
      gi_wp2
      exact hK
    case body =>
      intro l sub W' hsub hne hI hA
      have hW := hI.1
      have hce := hW.edges
      have hcs := hW.set
      obtain ⟨v, hcv, hfv, hown⟩ := hI.2.2
      have hsz := hI.2.1
      have hnx := splitsTo_next n A s sub hs hsub hne
      have hsub8 : sub < 256 := Nat.lt_of_le_of_lt (hsub ▸ Nat.and_le_right) (Nat.lt_of_le_of_lt (dif_le _ _) hs)
      have hlo8 : 2 ^ lowB s < 256 := by
        have := low_lt' s 8 h0 (by omega) (by omega)
        have := Nat.pow_lt_pow_right (a := 2) (by omega) this
        simpa using this
      have hx8 : sub ||| 2 ^ lowB s < 2 ^ 8 := Nat.or_lt_two_pow hsub8 hlo8
      have hlen : (splitsTo n A s sub).length ≤ sub := splitsTo_len n A s sub
      obtain ⟨sub', hsub'⟩ : ∃ z, z = nxt (dif s (2 ^ lowB s)) sub := ⟨_, rfl⟩
      rw [← hsub'] at hnx
      obtain ⟨x, hx⟩ : ∃ x, x = sub ||| 2 ^ lowB s := ⟨_, rfl⟩
      rw [← hx] at hnx hx8
      have E1 := u32_andNot_nat s x (by omega) (by omega)
      rw [show s &&& (4294967295 - x) = dif s x from rfl] at E1
      have hy8 : dif s x < 256 := Nat.lt_of_le_of_lt (dif_le _ _) hs
      have hbo : both n A s x = (connB n A x && connB n A (dif s x)) := rfl
      have hpo : pairOf s x = (x, dif s x) := rfl
      rw [hbo, hpo] at hnx
      obtain ⟨y, hy⟩ : ∃ y, y = dif s x := ⟨_, rfl⟩
      rw [← hy] at hnx E1 hy8
      rw [← hx, ← hsub']
      have HI := Lib.hid hI
      have HA := Lib.hid hA
      have hrow := Lib.hid hW.row
      clear hsub' hx hy hbo hpo hI hA hW hsub hne hlo8 HW4 HE
      cases c1 : connB n A x with
      | false =>
        rw [c1, Bool.false_and, if_neg (by simp)] at hnx
        gi_wp2_with (first | (refine ⟨trivial, ?_⟩; refine (callsIn_wide.2 (connected_any _ _ _ _ _ A _ hrow.out hn (by omega))).mono ?_; rw [c1]; rintro e w' ⟨rfl, rfl⟩) | (refine ⟨trivial, ?_⟩))
        exact ⟨KeepsOthers.refl _, HI.out.next hnx, HA.out⟩
      | true =>
        cases c2 : connB n A y with
        | false =>
          rw [c1, c2, Bool.and_false, if_neg (by simp)] at hnx
          gi_wp2_with (first | (refine ⟨trivial, ?_⟩; refine (callsIn_wide.2 (connected_any _ _ _ _ _ A _ hrow.out hn (by omega))).mono ?_; (first | rw [c1] | rw [c2]); rintro e w' ⟨rfl, rfl⟩) | (refine ⟨trivial, ?_⟩))
          exact ⟨KeepsOthers.refl _, HI.out.next hnx, HA.out⟩
        | true =>
          rw [c1, c2, Bool.and_true, if_pos rfl] at hnx
          gi_wp2_with (first | (gi_at_builtin; refine wpListIn_append_own _ rfl _ _ 25 rfl (W2.heap.size + 2) 27 i0 (.agg #[.int .u32 0, .int .u32 0]) 2 8 Tryd.underlying25 hi hz0 hz1 hz2 rfl (by decide) _ _ _ rfl (hown.alloc _) ⟨W'.heap.size, 0, none⟩ 1 1 [.int .u32 (x : Int), .int .u32 (y : Int)] rfl rfl (cell_two_new _ _ _ _) (by simp [Value.oneCell']) (by unfold maxLen; omega) (by omega) (by simp; omega) ?_; intro v' w2 hown' hgrow _; obtain ⟨sa, sn, sc, rfl⟩ := ownsRow_slice hown'; have htold := Lib.hid (SplI.told (sub' := sub') HI.out HA.out hcv hnx (by rw [hnx, List.length_append]; rfl) (by rw [hnx, flatP_snoc]; rfl) hown' hgrow); have hbelow : Below (W2.heap.size + 2) W' w2 := ((Below.refl _ W').alloc (by omega) _).grown hgrow (by simp; omega) (fun g hg => ownsRow_block hown g hg); have hcv2 := (hbelow.cell (p := ⟨W2.heap.size, 0, none⟩) (by simp)).trans hcv; have hfv2 := (hbelow.frozen (p := ⟨W2.heap.size, 0, none⟩) (by simp)).trans hfv; clear hown' hgrow hbelow) | (refine ⟨trivial, ?_⟩; refine (callsIn_wide.2 (connected_any _ _ _ _ _ A _ hrow.out hn (by omega))).mono ?_; (first | rw [c1] | rw [c2]); rintro e w' ⟨rfl, rfl⟩) | (refine ⟨trivial, ?_⟩))
          exact htold.out
    case done =>
      intro D W3 hD hI hK
      obtain ⟨h1, h2, v, h3, h4, h5⟩ := hI
      rw [splitsTo_end n A s h0 hs hcon] at h5
      have HF := Lib.hid (And.intro h1 h5)
      clear h1 h4 h5
      gi_wp2
      refine ⟨by simp, .inl ⟨D, _, rfl, run_takeDeferred hK, ?_⟩⟩
      refine ⟨_, results_tmp rfl _ _ _, v, rfl, ?_, ?_⟩
      · refine ownsRow_mono (ownsRow_congr HF.out.2 (fun g o _ hg ho _ => ?_)) (show w.heap.size ≤ W2.heap.size + 2 by omega)
        rw [World.putObj_heap_other (by intro e; subst e; rw [hK] at hg; cases hg; cases ho)]
        exact hg
      · refine HF.out.1.1.trans ((Below.refl _ W3).grown (grownBy_putObj' W3 D _) (by omega) (fun k e => by cases e; have := hst.2.2; omega))
  · gi_wp2
    refine ⟨_, results_tmp rfl _ _ _, _, rfl, ?_, HS3.out.1⟩
    have e : splitsL n A s = [] := by unfold splitsL; rw [if_neg hcon]
    rw [e]
    exact World.ownsRow_nil _ _ _ _

theorem Splits_any (a : Option Addr) (len cap s : Nat) (es : List Nat) (w : World) (h : EdgesAt w a len cap es) (hT : TabAt w) (hs32 : s < 4294967296) (h8 : es.length ≤ 8) :
    Calls Tryd.prog 8 #[.slice a len cap, .int .u32 s] w fun e w' => ∃ v, e = .returned v ∧ w'.ownsRow w.heap.size 27 2 v (splitsL es.length (adj es es.length) s).length (flatP (splitsL es.length (adj es es.length) s)) ∧ Below w.heap.size w w' :=
  callsIn_wide.1 (Splits_in a len cap s es w h hT hs32 h8)
end Go.Proofs.YtmjpdknnglblcaaDoor
