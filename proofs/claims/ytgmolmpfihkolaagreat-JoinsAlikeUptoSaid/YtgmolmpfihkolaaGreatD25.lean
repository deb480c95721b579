/- Part of the proof. -/
import Derived.Test.YtgmolmpfihkolaaGreatD24
namespace Go.Proofs.YtgmolmpfihkolaaGreat
open Go.RowKit Go.Proofs.YtgmolmpfihkolaaGreatW.PrintWords Go.Proofs.YtgmolmpfihkolaaGreatW.PrintMore Go.Proofs.YtgmolmpfihkolaaGreat.Pj
set_option linter.unusedVariables false
set_option maxRecDepth 100000
theorem zig_lt {n : Int} (h : (Lit.int .i64 n).wf = true) : zig n < 18446744073709551616 := by
 have := i64_bounds h
 unfold zig; split <;> omega
theorem putInt_f (K : Nat) (hK : 20 ≤ K) (n : Int) (b : List Int) (hn : (Lit.int .i64 n).wf = true) (hb : b.length < 100000000000000) : codec_PutInt.f K b n = some (b ++ encU (zig n)) := by
 have hB := i64_bounds hn
 have hz := zig_lt hn
 unfold codec_PutInt.f
 by_cases h : n < 0
 ·rw [if_pos h]
  have e : IntKind.u64.wrap (IntKind.u64.wrap n * 2) = ((18446744073709551615 - zig n : Nat) : Int) := by
   rw [IntKind.wrap_u64, IntKind.wrap_u64]; unfold zig at hz ⊢; rw [if_pos h] at hz ⊢; omega
  rw [e, xorMax _ (by omega), show 18446744073709551615 - (18446744073709551615 - zig n) = zig n by omega, putUint_f K hK _ b hz hb]
  rfl
 ·rw [if_neg h]
  have e : IntKind.u64.wrap (IntKind.u64.wrap n * 2) = ((zig n : Nat) : Int) := by
   rw [IntKind.wrap_u64, IntKind.wrap_u64]; unfold zig at hz ⊢; rw [if_neg h] at hz ⊢; omega
  rw [e, putUint_f K hK _ b hz hb]
  rfl
def fix8 (n : Nat) : List Int := [(n / 72057594037927936 % 256 : Nat), (n / 281474976710656 % 256 : Nat), (n / 1099511627776 % 256 : Nat), (n / 4294967296 % 256 : Nat), (n / 16777216 % 256 : Nat), (n / 65536 % 256 : Nat), (n / 256 % 256 : Nat), (n % 256 : Nat)]
theorem fix8_one {n m : Nat} (hn : n < 18446744073709551616) (hm : m < 18446744073709551616) {r s : List Int} (h : fix8 n ++ r = fix8 m ++ s) : n = m ∧ r = s := by
 unfold fix8 at h
 simp only [List.cons_append, List.nil_append, List.cons.injEq] at h
 obtain ⟨h1, h2, h3, h4, h5, h6, h7, h8, h9⟩ := h
 exact ⟨by omega, h9⟩
theorem fix8_bytes (n : Nat) (z : Int) (h : z ∈ fix8 n) : 0 ≤ z ∧ z < 256 := by
 unfold fix8 at h
 simp only [List.mem_cons, List.not_mem_nil, or_false] at h
 rcases h with h | h | h | h | h | h | h | h <;> omega
theorem shr_at (n : Nat) (k : Nat) (hk : k ≤ 7) : (shr .u64 (n : Int) (IntKind.u64.wrap (wrap64 (8 * (k : Int))))) % 256 = ((n / 2 ^ (8 * k) % 256 : Nat) : Int) := by
 have e : IntKind.u64.wrap (wrap64 (8 * (k : Int))) = ((8 * k : Nat) : Int) := by
  rw [IntKind.wrap_u64]; unfold wrap64; omega
 rw [e]
 unfold shr
 have e2 : min (((8 * k : Nat) : Int)).toNat IntKind.u64.bits = 8 * k := by
  show min _ 64 = _
  omega
 rw [e2]
 have e3 : ((n : Int) / (2 : Int) ^ (8 * k)) = ((n / 2 ^ (8 * k) : Nat) : Int) := by
  have : ((2 : Int) ^ (8 * k)) = ((2 ^ (8 * k) : Nat) : Int) := by simp
  rw [this]; simp
 rw [e3]; omega
theorem putFixed_step (K n k : Nat) (b : List Int) (hk : k ≤ 7) (hb : b.length < 140737488355328) : codec_PutFixed.l0 (K + 1) b (n : Int) (k : Int) = codec_PutFixed.l0 K (b ++ [((n / 2 ^ (8 * k) % 256 : Nat) : Int)]) (n : Int) ((k : Int) - 1) := by
 rw [codec_PutFixed.l0, if_pos (by omega), if_pos (by rw [IntKind.wrap_u64]; omega), if_pos hb, shr_at n k hk, show wrap64 ((k : Int) - 1) = (k : Int) - 1 by unfold wrap64; omega]
theorem putFixed_f (K : Nat) (hK : 20 ≤ K) (n : Nat) (b : List Int) (hb : b.length < 100000000000000) : codec_PutFixed.f K b (n : Int) 8 = some (b ++ fix8 n) := by
 unfold codec_PutFixed.f
 rw [show (mn (mx 8 0) 8) - 1 = ((7 : Nat) : Int) by decide]
 obtain ⟨K', rfl⟩ : ∃ K', K = K' + 1 + 1 + 1 + 1 + 1 + 1 + 1 + 1 + 1 := ⟨K - 9, by omega⟩
 rw [putFixed_step _ n 7 b (by omega) (by omega), show ((7 : Nat) : Int) - 1 = ((6 : Nat) : Int) by rfl]
 rw [putFixed_step _ n 6 _ (by omega) (by simp; omega), show ((6 : Nat) : Int) - 1 = ((5 : Nat) : Int) by rfl]
 rw [putFixed_step _ n 5 _ (by omega) (by simp; omega), show ((5 : Nat) : Int) - 1 = ((4 : Nat) : Int) by rfl]
 rw [putFixed_step _ n 4 _ (by omega) (by simp; omega), show ((4 : Nat) : Int) - 1 = ((3 : Nat) : Int) by rfl]
 rw [putFixed_step _ n 3 _ (by omega) (by simp; omega), show ((3 : Nat) : Int) - 1 = ((2 : Nat) : Int) by rfl]
 rw [putFixed_step _ n 2 _ (by omega) (by simp; omega), show ((2 : Nat) : Int) - 1 = ((1 : Nat) : Int) by rfl]
 rw [putFixed_step _ n 1 _ (by omega) (by simp; omega), show ((1 : Nat) : Int) - 1 = ((0 : Nat) : Int) by rfl]
 rw [putFixed_step _ n 0 _ (by omega) (by simp; omega)]
 rw [codec_PutFixed.l0, if_neg (by omega)]
 unfold fix8
 simp
def encP (p : Val) : List Int := [p.kind % 256] ++ (if p.kind = 1 then [p.int % 256] else if p.kind = 2 then encU (zig p.int) else if p.kind = 3 then fix8 (bitsV p.flt) else if p.kind = 4 then encU p.text.size ++ bytesOf p.text else [])
structure Canon (p : Val) : Prop where
 kind : 0 ≤ p.kind ∧ p.kind ≤ 4
 int : p.kind ≠ 1 → p.kind ≠ 2 → p.int = 0
 bool : p.kind = 1 → p.int = 0 ∨ p.int = 1
 flt : p.kind ≠ 3 → p.flt = 0
 text : p.kind ≠ 4 → p.text = ByteArray.empty
 size : p.text.size ≤ 64
 iwf : (Lit.int .i64 p.int).wf = true
 fwf : p.flt < 18446744073709551616
 nan : nanB p.flt = true → p.flt = 9221120237041090561
 zero : p.flt % 9223372036854775808 = 0 → p.flt = 0
theorem toList_nil {s : ByteArray} (h : s.toList.isEmpty = true) : s = ByteArray.empty := by
 refine toList_one ?_
 rw [List.isEmpty_iff.1 h]
 exact (toList_data ByteArray.empty).symm
theorem null_canon : Canon Val.null := ⟨by decide, fun _ _ => rfl, fun h => by simp [Val.null] at h, fun _ => rfl, fun _ => rfl, by decide, by decide, by decide, fun h => absurd h (by decide), fun _ => rfl⟩
theorem plain_canon {v : Val} (hv : v.wf) : Canon (plainV v) := by
 obtain ⟨w1, w2, w3, w4⟩ := hv
 unfold plainV
 by_cases hr : rightV v = true
 ·rw [if_pos hr]
  unfold rightV at hr
  simp only [Bool.or_eq_true, Bool.and_eq_true, beq_iff_eq, decide_eq_true_eq] at hr
  obtain ⟨k, n, f, s⟩ := v
  simp only at *
  rcases hr with (((⟨rfl, rfl, rfl, hs⟩ | ⟨rfl, hn, rfl, hs⟩) | ⟨rfl, rfl, hs⟩) | ⟨rfl, rfl, hs⟩) | ⟨rfl, rfl, rfl, hs⟩
  ·rw [if_neg (by omega)]
   obtain rfl := toList_nil hs
   exact ⟨⟨by simp, by simp⟩, fun _ _ => rfl, fun h => by simp at h, fun _ => rfl, fun _ => rfl, by decide, w2, (show (0 : Nat) < 18446744073709551616 by omega), fun h => absurd h (show ¬ nanB 0 = true by decide), fun _ => rfl⟩
  ·rw [if_neg (by omega)]
   obtain rfl := toList_nil hs
   exact ⟨⟨by simp, by simp⟩, fun h => by simp at h, fun _ => hn, fun _ => rfl, fun _ => rfl, by show (0 : Nat) ≤ 64; omega, w2, (show (0 : Nat) < 18446744073709551616 by omega), fun h => absurd h (show ¬ nanB 0 = true by decide), fun _ => rfl⟩
  ·rw [if_neg (by omega)]
   obtain rfl := toList_nil hs
   exact ⟨⟨by simp, by simp⟩, fun _ h => by simp at h, fun h => by simp at h, fun _ => rfl, fun _ => rfl, by show (0 : Nat) ≤ 64; omega, w2, (show (0 : Nat) < 18446744073709551616 by omega), fun h => absurd h (show ¬ nanB 0 = true by decide), fun _ => rfl⟩
  ·rw [if_pos rfl]
   obtain rfl := toList_nil hs
   by_cases hn : nanB f = true
   ·rw [if_pos hn]
    exact ⟨⟨by simp, by simp⟩, fun _ _ => rfl, fun h => by simp at h, fun h => by simp at h, fun _ => rfl, by show (0 : Nat) ≤ 64; omega, w2, (show (9221120237041090561 : Nat) < 18446744073709551616 by omega), fun _ => rfl, fun h => by simp at h⟩
   ·rw [if_neg hn]
    by_cases hz : f % 9223372036854775808 = 0
    ·rw [if_pos hz]
     exact ⟨⟨by simp, by simp⟩, fun _ _ => rfl, fun h => by simp at h, fun h => by simp at h, fun _ => rfl, by show (0 : Nat) ≤ 64; omega, w2, (show (0 : Nat) < 18446744073709551616 by omega), fun h => absurd h (show ¬ nanB 0 = true by decide), fun _ => rfl⟩
    ·rw [if_neg hz]
     exact ⟨⟨by simp, by simp⟩, fun _ _ => rfl, fun h => by simp at h, fun h => by simp at h, fun _ => rfl, by show (0 : Nat) ≤ 64; omega, w2, by simpa using w3, fun h => absurd h hn, fun h => absurd h hz⟩
  ·rw [if_neg (by omega)]
   exact ⟨⟨by simp, by simp⟩, fun _ _ => rfl, fun h => by simp at h, fun _ => rfl, fun h => by simp at h, hs, w2, (show (0 : Nat) < 18446744073709551616 by omega), fun h => absurd h (show ¬ nanB 0 = true by decide), fun _ => rfl⟩
 ·rw [if_neg hr]; exact null_canon
theorem bytesOf_one {a b : ByteArray} (h : bytesOf a = bytesOf b) : a = b := by
 unfold bytesOf at h
 have := (List.map_inj_right (f := fun b : UInt8 => (b.toNat : Int)) (fun x y h => by
  have : x.toNat = y.toNat := by omega
  exact UInt8.toNat_inj.1 this)).1 h
 obtain ⟨a⟩ := a
 obtain ⟨b⟩ := b
 congr 1
 exact Array.toList_inj.1 this
theorem bitsV_canon {p : Val} (h : Canon p) : bitsV p.flt = p.flt := by
 unfold bitsV
 split
 ·rename_i hn; exact (h.nan hn).symm
 ·split
  ·rename_i hz; exact (h.zero hz).symm
  ·rfl
theorem encP_one {p q : Val} (hp : Canon p) (hq : Canon q) {r s : List Int} (h : encP p ++ r = encP q ++ s) : p = q ∧ r = s := by
 unfold encP at h
 simp only [List.cons_append, List.nil_append, List.cons.injEq] at h
 obtain ⟨hk, h⟩ := h
 have hkk : p.kind = q.kind := by have := hp.kind; have := hq.kind; omega
 rw [← hkk] at h
 have put : ∀ {a b : Val}, Canon a → Canon b → a.kind = b.kind → a.int = b.int → a.flt = b.flt → a.text = b.text → a = b := by
  rintro ⟨_, _, _, _⟩ ⟨_, _, _, _⟩ _ _ h1 h2 h3 h4
  simp only at h1 h2 h3 h4
  rw [h1, h2, h3, h4]
 by_cases k1 : p.kind = 1
 ·rw [if_pos k1, if_pos k1] at h
  simp only [List.cons_append, List.nil_append, List.cons.injEq] at h
  have b1 := hp.bool k1
  have b2 := hq.bool (by omega)
  exact ⟨put hp hq hkk (by omega) (by rw [hp.flt (by omega), hq.flt (by omega)]) (by rw [hp.text (by omega), hq.text (by omega)]), h.2⟩
 ·rw [if_neg k1, if_neg k1] at h
  by_cases k2 : p.kind = 2
  ·rw [if_pos k2, if_pos k2] at h
   obtain ⟨e1, e2⟩ := encU_one _ _ _ _ h
   exact ⟨put hp hq hkk (zig_one e1) (by rw [hp.flt (by omega), hq.flt (by omega)]) (by rw [hp.text (by omega), hq.text (by omega)]), e2⟩
  ·rw [if_neg k2, if_neg k2] at h
   have ei : p.int = q.int := by rw [hp.int k1 k2, hq.int (by omega) (by omega)]
   by_cases k3 : p.kind = 3
   ·rw [if_pos k3, if_pos k3, bitsV_canon hp, bitsV_canon hq] at h
    obtain ⟨e1, e2⟩ := fix8_one hp.fwf hq.fwf h
    exact ⟨put hp hq hkk ei e1 (by rw [hp.text (by omega), hq.text (by omega)]), e2⟩
   ·rw [if_neg k3, if_neg k3] at h
    have ef : p.flt = q.flt := by rw [hp.flt k3, hq.flt (by omega)]
    by_cases k4 : p.kind = 4
    ·rw [if_pos k4, if_pos k4, List.append_assoc, List.append_assoc] at h
     obtain ⟨e1, e2⟩ := encU_one _ _ _ _ h
     obtain ⟨e3, e4⟩ := List.append_inj e2 (by rw [bytesOf_length, bytesOf_length]; exact e1)
     exact ⟨put hp hq hkk ei ef (bytesOf_one e3), e4⟩
    ·rw [if_neg k4, if_neg k4] at h
     exact ⟨put hp hq hkk ei ef (by rw [hp.text k4, hq.text (by omega)]), h⟩
theorem encP_bytes {p : Val} (hp : Canon p) : ∀ z, z ∈ encP p → 0 ≤ z ∧ z < 256 := by
 intro z hz
 unfold encP at hz
 rcases List.mem_append.1 hz with hz | hz
 ·have : z = p.kind % 256 := by simpa using hz
  omega
 ·split at hz
  ·have : z = p.int % 256 := by simpa using hz
   omega
  ·split at hz
   ·exact encU_bytes _ _ hz
   ·split at hz
    ·exact fix8_bytes _ _ hz
    ·split at hz
     ·rcases List.mem_append.1 hz with hz | hz
      ·exact encU_bytes _ _ hz
      ·unfold bytesOf at hz
       obtain ⟨b, _, rfl⟩ := List.mem_map.1 hz
       have := b.toNat_lt
       omega
     ·cases hz
theorem encP_length {p : Val} (hp : Canon p) : (encP p).length ≤ 80 := by
 unfold encP
 rw [List.length_append, List.length_singleton]
 split
 ·simp
 ·split
  ·have := encU_length 9 (zig p.int) (Nat.lt_of_lt_of_le (zig_lt hp.iwf) (by decide))
   omega
  ·split
   ·unfold fix8; simp
   ·split
    ·have := encU_length 9 p.text.size (by have := hp.size; exact Nat.lt_of_le_of_lt this (by decide))
     have := hp.size
     rw [List.length_append, bytesOf_length]
     omega
    ·simp
theorem valuePut_f (K : Nat) (hK : 20 ≤ K) (b : List Int) (v : PV) (hv : wfV v = true) (hb : b.length < 90000000000000) : value_Put.f K b v.f0 v.f1 v.f2 v.f3 = some (b ++ encP (plainV (vOf v))) := by
 have hw : (vOf v).wf := of_decide_eq_true hv
 have hc := plain_canon hw
 unfold value_Put.f value_Plain.f plainF
 rw [if_pos (show wfV ⟨v.f0, v.f1, v.f2, v.f3⟩ = true from hv)]
 show (if b.length < 140737488355328 then _ else none) = _
 rw [if_pos (by omega)]
 obtain ⟨p, hp⟩ : ∃ p, p = plainV (vOf v) := ⟨_, rfl⟩
 show ((if (plainV (vOf v)).kind = 1 then _ else _) : Option (List Int)) = _
 rw [← hp] at hc ⊢
 have hl : (b ++ [p.kind % 256]).length = b.length + 1 := by simp
 unfold encP
 by_cases k1 : p.kind = 1
 ·rw [if_pos k1, if_pos k1]
  show (if (b ++ [p.kind % 256]).length < 140737488355328 then some ((b ++ [p.kind % 256]) ++ [p.int % 256]) else none) = _
  rw [if_pos (by rw [hl]; omega), List.append_assoc]
 ·rw [if_neg k1, if_neg k1]
  by_cases k2 : p.kind = 2
  ·rw [if_pos k2, if_pos k2]
   show ((codec_PutInt.f K (b ++ [p.kind % 256]) p.int).bind fun t => some t) = _
   rw [putInt_f K hK _ _ hc.iwf (by rw [hl]; omega), List.append_assoc]; rfl
  ·rw [if_neg k2, if_neg k2]
   by_cases k3 : p.kind = 3
   ·rw [if_pos k3, if_pos k3]
    show ((codec_PutFloat.f K (b ++ [p.kind % 256]) p.flt).bind fun t => some t) = _
    unfold codec_PutFloat.f codec_bits.f cbitsF
    rw [Option.bind_some, putFixed_f K hK _ _ (by rw [hl]; omega), List.append_assoc]; rfl
   ·rw [if_neg k3, if_neg k3]
    by_cases k4 : p.kind = 4
    ·rw [if_pos k4, if_pos k4]
     show ((codec_PutText.f K (b ++ [p.kind % 256]) p.text).bind fun t => some t) = _
     unfold codec_PutText.f
     have hs := hc.size
     have e : IntKind.u64.wrap (p.text.size : Int) = (p.text.size : Int) := by rw [IntKind.wrap_u64]; omega
     have hu := encU_length 9 p.text.size (Nat.lt_of_le_of_lt hs (by decide))
     rw [e, putUint_f K hK _ _ (by omega) (by rw [hl]; omega), Option.bind_some, if_pos (by rw [List.length_append, hl]; omega), Option.bind_some]
     simp only [List.append_assoc]
    ·rw [if_neg k4, if_neg k4, List.append_nil]
def encR (l : List PV) : List Int := encU l.length ++ l.flatMap (fun v => encP (plainV (vOf v)))
theorem rowPut_go (l : List PV) (hw : wfR l = true) (hl : l.length ≤ 1000000) : ∀ (m i : Nat) (b : List Int), l.length - i = m → i ≤ l.length → b.length + m * 80 < 90000000000000 → ∀ K, m + 21 ≤ K → row_Put.l0 K b l (l.length : Int) (i : Int) = some (b ++ (l.drop i).flatMap (fun v => encP (plainV (vOf v))))
 | m, i, b, hm, hi, hb, 0, hK => by omega
 | 0, i, b, hm, hi, hb, K + 1, hK => by
  rw [row_Put.l0, if_neg (by omega), List.drop_of_length_le (by omega)]; simp
 | m + 1, i, b, hm, hi, hb, K + 1, hK => by
  have hil : i < l.length := by omega
  have hv : wfV l[i] = true := List.all_eq_true.1 hw _ (List.getElem_mem hil)
  have e : rd_T39 l (i : Int) = l[i] := by
   unfold rd_T39
   rw [List.getD_eq_getElem?_getD, Int.toNat_natCast, List.getElem?_eq_getElem hil]; rfl
  rw [row_Put.l0, if_pos (by omega), if_pos (by omega), if_pos (by omega), e, valuePut_f K (by omega) b _ hv (by omega), Option.bind_some]
  have hc := encP_length (plain_canon (of_decide_eq_true hv : (vOf l[i]).wf))
  rw [show wrap64 ((i : Int) + 1) = ((i + 1 : Nat) : Int) by unfold wrap64; omega]
  rw [rowPut_go l hw hl m (i + 1) _ (by omega) (by omega) (by rw [List.length_append]; omega) K (by omega)]
  rw [List.drop_eq_getElem_cons hil, List.flatMap_cons, List.append_assoc]
theorem rowPut_f (K : Nat) (l : List PV) (hK : l.length + 30 ≤ K) (hw : wfR l = true) (hl : l.length ≤ 1000000) : row_Put.f K [] l = some (encR l) := by
 unfold row_Put.f
 have e : IntKind.u64.wrap (l.length : Int) = (l.length : Int) := by rw [IntKind.wrap_u64]; omega
 have hu := encU_length 9 l.length (Nat.lt_of_le_of_lt hl (by decide))
 rw [e, putUint_f K (by omega) _ _ (by omega) (by simp), Option.bind_some, List.nil_append]
 have := rowPut_go l hw hl l.length 0 (encU l.length) (by omega) (by omega) (by omega) K (by omega)
 rw [List.drop_zero] at this
 exact this
theorem encR_bytes {l : List PV} (hw : wfR l = true) : ∀ z, z ∈ encR l → 0 ≤ z ∧ z < 256 := by
 intro z hz
 unfold encR at hz
 rcases List.mem_append.1 hz with hz | hz
 ·exact encU_bytes _ _ hz
 ·obtain ⟨v, hv, hz⟩ := List.mem_flatMap.1 hz
  exact encP_bytes (plain_canon (of_decide_eq_true (List.all_eq_true.1 hw v hv))) z hz
theorem flat_one : ∀ (l m : List PV), l.length = m.length → wfR l = true → wfR m = true → ∀ r s, l.flatMap (fun v => encP (plainV (vOf v))) ++ r = m.flatMap (fun v => encP (plainV (vOf v))) ++ s → l.map (fun v => plainV (vOf v)) = m.map (fun v => plainV (vOf v))
 | [], [], _, _, _, _, _, _ => rfl
 | [], _ :: _, h, _, _, _, _, _ => by simp at h
 | _ :: _, [], h, _, _, _, _, _ => by simp at h
 | a :: l, b :: m, h, h1, h2, r, s, he => by
  simp only [wfR, List.all_cons, Bool.and_eq_true] at h1 h2
  rw [List.flatMap_cons, List.flatMap_cons, List.append_assoc, List.append_assoc] at he
  obtain ⟨e1, e2⟩ := encP_one (plain_canon (of_decide_eq_true h1.1)) (plain_canon (of_decide_eq_true h2.1)) he
  rw [List.map_cons, List.map_cons, e1, flat_one l m (by simpa using h) h1.2 h2.2 r s e2]
theorem encR_one {l m : List PV} (h1 : wfR l = true) (h2 : wfR m = true) (h : encR l = encR m) : l.map (fun v => plainV (vOf v)) = m.map (fun v => plainV (vOf v)) := by
 unfold encR at h
 obtain ⟨e1, e2⟩ := encU_one _ _ _ _ h
 exact flat_one l m e1 h1 h2 [] [] (by rw [e2])
theorem ofNat_one {x y : Nat} (hx : x < 256) (hy : y < 256) (h : UInt8.ofNat x = UInt8.ofNat y) : x = y := by
 have := congrArg UInt8.toNat h
 rw [UInt8.toNat_ofNat', UInt8.toNat_ofNat'] at this
 omega
theorem map_ofNat_one : ∀ {a b : List Int}, (∀ z, z ∈ a → 0 ≤ z ∧ z < 256) → (∀ z, z ∈ b → 0 ≤ z ∧ z < 256) → (a.map fun n => UInt8.ofNat n.toNat) = (b.map fun n => UInt8.ofNat n.toNat) → a = b
 | [], [], _, _, _ => rfl
 | [], _ :: _, _, _, h => by simp at h
 | _ :: _, [], _, _, h => by simp at h
 | x :: a, y :: b, h1, h2, h => by
  rw [List.map_cons, List.map_cons] at h
  injection h with e1 e2
  have hx := h1 x List.mem_cons_self
  have hy := h2 y List.mem_cons_self
  have e := ofNat_one (by omega) (by omega) e1
  rw [map_ofNat_one (fun z hz => h1 z (List.mem_cons_of_mem _ hz)) (fun z hz => h2 z (List.mem_cons_of_mem _ hz)) e2, show x = y by omega]
theorem strOf_one {a b : List Int} (h1 : ∀ z, z ∈ a → 0 ≤ z ∧ z < 256) (h2 : ∀ z, z ∈ b → 0 ≤ z ∧ z < 256) (h : strOfNums a = strOfNums b) : a = b := by
 have h := congrArg (fun s : ByteArray => s.data.toList) h
 simp only [strOfNums_data] at h
 exact map_ofNat_one h1 h2 h
end Go.Proofs.YtgmolmpfihkolaaGreat
namespace Go.Proofs.YtgmolmpfihkolaaGreat
open Go.RowKit Go.Proofs.YtgmolmpfihkolaaGreatW.PrintWords Go.Proofs.YtgmolmpfihkolaaGreat.Pj
set_option linter.unusedVariables false
set_option maxRecDepth 100000
theorem two_le {n m : Nat} (h : n ≤ m) : 2 ^ n ≤ 2 ^ m := Nat.pow_le_pow_right (by omega) h
theorem two_mul_lt {a b c : Nat} (h : a + b < c) : 2 ^ a * 2 ^ b < 2 ^ c := by rw [← Nat.pow_add]; exact Nat.pow_lt_pow_right (by omega) h
theorem norm_one {m m' e e' : Nat} (hm : m < 4503599627370496) (hm' : m' < 4503599627370496) (h : (4503599627370496 + m) * 2 ^ e = (4503599627370496 + m') * 2 ^ e') : e = e' ∧ m = m' := by
 have key : ∀ {a b i j : Nat}, a < 4503599627370496 → i < j → (4503599627370496 + a) * 2 ^ i = (4503599627370496 + b) * 2 ^ j → False := by
  intro a b i j ha hij h
  obtain ⟨d, rfl⟩ : ∃ d, j = i + (d + 1) := ⟨j - i - 1, by omega⟩
  rw [Nat.pow_add, ← Nat.mul_assoc, Nat.mul_right_comm] at h
  have h := Nat.eq_of_mul_eq_mul_right (Nat.two_pow_pos i) h
  have h2 : 2 ≤ 2 ^ (d + 1) := by rw [Nat.pow_succ]; have := Nat.two_pow_pos d; omega
  have h3 := Nat.mul_le_mul_left (4503599627370496 + b) h2
  omega
 rcases Nat.lt_trichotomy e e' with h1 | h1 | h1
 ·exact (key hm h1 h).elim
 ·subst h1
  have h := Nat.eq_of_mul_eq_mul_right (Nat.two_pow_pos e) h
  exact ⟨rfl, by omega⟩
 ·exact (key hm' h1 h.symm).elim
theorem magF_one {M M' : Nat} (h1 : M ≤ 9218868437227405312) (h2 : M' ≤ 9218868437227405312) (h : magF M = magF M') : M = M' := by
 have big : ∀ {N : Nat}, ¬ N < 4503599627370496 → N < 9218868437227405312 → (4503599627370496 + N % 4503599627370496) * 2 ^ (N / 4503599627370496 - 1) < 2 ^ 2099 := by
  intro N hn hN
  have a : 4503599627370496 + N % 4503599627370496 < 2 ^ 53 := by have := Nat.mod_lt N (show 0 < 4503599627370496 by omega); omega
  obtain ⟨u, hu⟩ : ∃ u, u = 2045 := ⟨_, rfl⟩
  have b := two_le (show N / 4503599627370496 - 1 ≤ u by omega)
  exact Nat.lt_of_le_of_lt (Nat.mul_le_mul (Nat.le_of_lt a) b) (two_mul_lt (c := 2099) (by omega))
 have low : ∀ (N : Nat), 4503599627370496 ≤ (4503599627370496 + N % 4503599627370496) * 2 ^ (N / 4503599627370496 - 1) := by
  intro N
  have := Nat.mul_le_mul_left (4503599627370496 + N % 4503599627370496) (Nat.two_pow_pos (N / 4503599627370496 - 1))
  omega
 have inf : (4503599627370496 : Nat) < 2 ^ 2099 := calc (4503599627370496 : Nat) < 2 ^ 53 := by omega
  _ ≤ 2 ^ 2099 := Nat.pow_le_pow_right (by omega) (by omega)
 unfold magF at h
 by_cases a1 : M < 4503599627370496
 ·rw [if_pos a1] at h
  by_cases b1 : M' < 4503599627370496
  ·rw [if_pos b1] at h; exact h
  ·rw [if_neg b1] at h
   by_cases b2 : M' < 9218868437227405312
   ·rw [if_pos b2] at h; have := low M'; omega
   ·rw [if_neg b2] at h
    exfalso
    rw [h] at a1
    exact absurd a1 (Nat.not_lt.2 (Nat.le_of_lt inf))
 ·rw [if_neg a1] at h
  by_cases a2 : M < 9218868437227405312
  ·rw [if_pos a2] at h
   by_cases b1 : M' < 4503599627370496
   ·rw [if_pos b1] at h; have := low M; omega
   ·rw [if_neg b1] at h
    by_cases b2 : M' < 9218868437227405312
    ·rw [if_pos b2] at h
     obtain ⟨e1, e2⟩ := norm_one (Nat.mod_lt _ (by omega)) (Nat.mod_lt _ (by omega)) h
     omega
    ·rw [if_neg b2] at h
     exact absurd (big a1 a2) (by rw [h]; exact Nat.lt_irrefl _)
  ·rw [if_neg a2] at h
   by_cases b1 : M' < 4503599627370496
   ·rw [if_pos b1] at h
    exfalso
    rw [← h] at b1
    exact absurd b1 (Nat.not_lt.2 (Nat.le_of_lt inf))
   ·rw [if_neg b1] at h
    by_cases b2 : M' < 9218868437227405312
    ·rw [if_pos b2] at h
     exact absurd (big b1 b2) (by rw [← h]; exact Nat.lt_irrefl _)
    ·omega
theorem magF_zero {M : Nat} (h1 : M ≤ 9218868437227405312) (h : magF M = 0) : M = 0 := magF_one h1 (by omega) (h.trans (by unfold magF; simp))
theorem valF_one {f g : Nat} (hf : f < 18446744073709551616) (hg : g < 18446744073709551616) (nf : nanB f = true → f = 9221120237041090561) (ng : nanB g = true → g = 9221120237041090561) (zf : f % 9223372036854775808 = 0 → f = 0) (zg : g % 9223372036854775808 = 0 → g = 0) (h : valF f = valF g) : f = g := by
 by_cases a : nanB f = true
 ·by_cases b : nanB g = true
  ·rw [nf a, ng b]
  ·have := valF_lt g (by simpa using b)
   rw [← h] at this
   unfold valF at this
   rw [if_pos a] at this
   exact absurd this (Int.lt_irrefl _)
 ·by_cases b : nanB g = true
  ·have := valF_lt f (by simpa using a)
   rw [h] at this
   unfold valF at this
   rw [if_pos b] at this
   exact absurd this (Int.lt_irrefl _)
  ·unfold valF at h
   rw [if_neg a, if_neg b] at h
   have lf : f % 9223372036854775808 ≤ 9218868437227405312 := by unfold nanB at a; simpa using a
   have lg : g % 9223372036854775808 ≤ 9218868437227405312 := by unfold nanB at b; simpa using b
   by_cases s1 : (f / 9223372036854775808 % 2 == 1) = true
   ·rw [if_pos s1] at h
    rw [beq_iff_eq] at s1
    by_cases s2 : (g / 9223372036854775808 % 2 == 1) = true
    ·rw [if_pos s2] at h
     rw [beq_iff_eq] at s2
     have := magF_one lf lg (by omega)
     omega
    ·rw [if_neg s2] at h
     have := zf (magF_zero lf (by omega))
     omega
   ·rw [if_neg s1] at h
    by_cases s2 : (g / 9223372036854775808 % 2 == 1) = true
    ·rw [if_pos s2] at h
     rw [beq_iff_eq] at s2
     have := zg (magF_zero lg (by omega))
     omega
    ·rw [if_neg s2] at h
     rw [beq_iff_eq] at s1 s2
     have := magF_one lf lg (by omega)
     omega
theorem cmpI_zero {a b : Int} (h : cmpI a b = 0) : a = b := by
 unfold cmpI at h
 split at h
 ·omega
 ·split at h <;> omega
theorem cmpV_one {a b : Val} (ha : a.wf) (hb : b.wf) (h : cmpV a b = 0) : plainV a = plainV b := by
 have ca := plain_canon ha
 have cb := plain_canon hb
 unfold cmpV at h
 obtain ⟨p, hp⟩ : ∃ p, p = plainV a := ⟨_, rfl⟩
 obtain ⟨q, hq⟩ : ∃ q, q = plainV b := ⟨_, rfl⟩
 rw [← hp] at ca h ⊢
 rw [← hq] at cb h ⊢
 clear hp hq
 unfold cmpP at h
 by_cases hk : p.kind = q.kind
 ·rw [if_neg (by simpa using hk)] at h
  have put : ∀ {a b : Val}, a.kind = b.kind → a.int = b.int → a.flt = b.flt → a.text = b.text → a = b := by
   rintro ⟨_, _, _, _⟩ ⟨_, _, _, _⟩ h1 h2 h3 h4
   simp only at h1 h2 h3 h4
   rw [h1, h2, h3, h4]
  by_cases k3 : p.kind = 3
  ·rw [if_pos k3, cmpF_val] at h
   exact put hk (by rw [ca.int (by omega) (by omega), cb.int (by omega) (by omega)]) (valF_one ca.fwf cb.fwf ca.nan cb.nan ca.zero cb.zero (cmpI_zero h)) (by rw [ca.text (by omega), cb.text (by omega)])
  ·rw [if_neg k3] at h
   by_cases k4 : p.kind = 4
   ·rw [if_pos k4] at h
    exact put hk (by rw [ca.int (by omega) (by omega), cb.int (by omega) (by omega)]) (by rw [ca.flt k3, cb.flt (by omega)]) (toList_one ((cmpS_vals _ _).2.2.1 h))
   ·rw [if_neg k4] at h
    exact put hk (cmpI_zero h) (by rw [ca.flt k3, cb.flt (by omega)]) (by rw [ca.text k4, cb.text (by omega)])
 ·rw [if_pos (by simpa using hk)] at h
  exact absurd (cmpI_zero h) hk
theorem cmpV_same {a b : Val} (h : plainV a = plainV b) : cmpV a b = 0 := by
 unfold cmpV
 rw [h]
 have := cmpP_neg (plainV b) (plainV b)
 omega
theorem cmpRow_plain : ∀ {l m : List PV}, wfR l = true → wfR m = true → (cmpRow (rOf l) (rOf m) = 0 ↔ l.map (fun v => plainV (vOf v)) = m.map (fun v => plainV (vOf v)))
 | [], [], _, _ => by simp [rOf, cmpRow]
 | [], b :: m, _, _ => by simp [rOf, cmpRow]
 | a :: l, [], _, _ => by simp [rOf, cmpRow]
 | a :: l, b :: m, h1, h2 => by
  simp only [wfR, List.all_cons, Bool.and_eq_true] at h1 h2
  have ih := cmpRow_plain (l := l) (m := m) h1.2 h2.2
  have wa : (vOf a).wf := of_decide_eq_true h1.1
  have wb : (vOf b).wf := of_decide_eq_true h2.1
  simp only [rOf, List.map_cons, cmpRow, List.cons.injEq]
  by_cases e : cmpV (vOf a) (vOf b) = 0
  ·rw [if_neg (by simpa using e)]
   constructor
   ·intro h
    exact ⟨cmpV_one wa wb e, ih.1 h⟩
   ·intro h
    exact ih.2 h.2
  ·rw [if_pos e]
   constructor
   ·intro h; exact absurd h e
   ·intro h; exact absurd (cmpV_same h.1) e
theorem nm_some {p : PK} (hw : wfR p.f1 = true) (hl : p.f1.length ≤ 1000) : row_Put.f KF [] p.f1 = some (encR p.f1) ∧ nm p = strOfNums (encR p.f1) := by
 have h := rowPut_f KF p.f1 (by unfold KF; omega) hw (by omega)
 exact ⟨h, by unfold nm; rw [h]⟩
theorem nm_one {p q : PK} (hp : wfR p.f1 = true) (hq : wfR q.f1 = true) (lp : p.f1.length ≤ 1000) (lq : q.f1.length ≤ 1000) : nm q = nm p ↔ kc p q = 0 := by
 rw [(nm_some hp lp).2, (nm_some hq lq).2]
 unfold kc
 rw [cmpRow_plain hp hq]
 constructor
 ·intro h
  exact encR_one hp hq (strOf_one (encR_bytes hp) (encR_bytes hq) h.symm)
 ·intro h
  have hl : p.f1.length = q.f1.length := by have := congrArg List.length h; simpa using this
  have e : p.f1.flatMap (fun v => encP (plainV (vOf v))) = q.f1.flatMap (fun v => encP (plainV (vOf v))) := by
   have a : ∀ l : List PV, l.flatMap (fun v => encP (plainV (vOf v))) = (l.map (fun v => plainV (vOf v))).flatMap encP := fun l => by rw [List.flatMap_map]
   rw [a, a, h]
  unfold encR
  rw [hl, e]
end Go.Proofs.YtgmolmpfihkolaaGreat
namespace Go.Proofs.YtgmolmpfihkolaaGreat.Pj
open Go.RowKit Go.Proofs.YtgmolmpfihkolaaGreatW.PrintWords Go.Proofs.YtgmolmpfihkolaaGreatW.PrintLast Go.Proofs.YtgmolmpfihkolaaGreatW.PrintMore
attribute [local go_sem] run_store_flt max2_int min2_int max_two min_two max_three min_three max_four min_four
set_option linter.unusedVariables false
set_option linter.unusedSimpArgs false
mutual
def joins_Loop.l0 : Nat → T3 → T3 → List (S53) → T3 → Int → Int → Option (T3 × Int)
 | 0, _, _, _, _, _, _ => none
 | k + 1, x0, x1, x2, x8, x15, x16 => if x16 < x15 then (joins_Loop.l1 k x0 x1 x2 x8 x16 ([] : List (S71)) x15 x16 (x1.length : Int) 0) else (some (x8, 0))
def joins_Loop.l1 : Nat → T3 → T3 → List (S53) → T3 → Int → List (S71) → Int → Int → Int → Int → Option (T3 × Int)
 | 0, _, _, _, _, _, _, _, _, _, _ => none
 | k + 1, x0, x1, x2, x8, x9, x10, x15, x16, x20, x21 => if x21 < x20 then (if x10.length < 8796093022208 then (joins_Loop.l1 k x0 x1 x2 x8 x9 (x10 ++ [(⟨x9, x21⟩ : S71)]) x15 x16 x20 (wrap64 (x21 + 1))) else (none)) else ((joins_told.f k x0 x1 x10 x2).bind fun bt186 => (if bt186.2 = 0 then (if x8.length + bt186.1.length < 5864062014805 then (joins_Loop.l0 k x0 x1 x2 (x8 ++ bt186.1) x15 (wrap64 (x16 + 1))) else (none)) else (some (([] : T3), bt186.2))))
end
def joins_Loop.f (k : Nat) (l0 : T3) (l1 : T3) (l2 : List (S53)) : Option (T3 × Int) := joins_Loop.l0 k l0 l1 l2 ([] : T3) (l0.length : Int) 0
set_option maxHeartbeats 8000000 in
set_option maxRecDepth 100000 in
theorem joins_Loop.calls (k : Nat) (A0 : Option Addr) (c0 : Nat) (l0 : T3) (A1 : Option Addr) (c1 : Nat) (l1 : T3) (A2 : Option Addr) (c2 : Nat) (l2 : List (S53)) (r1 : T3) (r2 : Int) (w : World) (hr0 : Kd.C (Kd.slice 29 (Kd.slice 39 k39)) w A0 l0.length l0) (hc0 : l0.length ≤ c0) (hr1 : Kd.C (Kd.slice 29 (Kd.slice 39 k39)) w A1 l1.length l1) (hc1 : l1.length ≤ c1) (hr2 : Kd.C k53 w A2 l2.length l2) (hc2 : l2.length ≤ c2) (h : joins_Loop.f k l0 l1 l2 = some (r1, r2)) :
 Calls Tryz.prog 16 #[.slice A0 l0.length c0, .slice A1 l1.length c1, .slice A2 l2.length c2] w fun e w' => ∃ v0_ : Value, e = .returned (.tuple #[v0_, .int .i64 r2]) ∧ Kd.N (Kd.slice 29 (Kd.slice 39 k39)) 22 w' w.heap.size (fun k_ => (w.heap.size ≤ k_)) v0_ r1 ∧ Below w.heap.size w w' := by
 have hu71 := Tryz.underlying71
 have HR0 := akk hr0
 have HC0 := akk hc0
 clear hr0 hc0
 have HR1 := akk hr1
 have HC1 := akk hc1
 clear hr1 hc1
 have HR2 := akk hr2
 have HC2 := akk hc2
 clear hr2 hc2
 have HB := akk (Below.refl w.heap.size w)
 have H : (joins_Loop.l0 k l0 l1 l2 ([] : T3) (l0.length : Int) 0) = some (r1, r2) := h
 clear h
 have H' := akk H
 clear H
 go_enter Tryz.func16, Tryz.ntmps16
 go_wp2
 go_loopg [8, 16] k (fun kq v8 v16 w' => ∃ (x8_1 : T3) (x16_1 : Int), v16 = .int .i64 x16_1 ∧ Aside0 (joins_Loop.l0 kq l0 l1 l2 x8_1 (l0.length : Int) x16_1 = some (r1, r2)) ∧ Aside0 (kq ≤ k) ∧ Aside0 (Kd.N (Kd.slice 29 (Kd.slice 39 k39)) 22 w' w.heap.size (fun k_ => (w.heap.size ≤ k_)) v8 x8_1) ∧ Aside0 (Below w.heap.size w w'))
 case atStart => exact ⟨(([] : T3)), (0), eT, H', ⟨Nat.le_refl _⟩, ⟨zT⟩, ⟨bT⟩⟩
 case round =>
  clear H'
  obtain ⟨x8_1, x16_1, rfl, HA, HK1, HO_8, HB⟩ := hrel
  cases gk with
  | zero => exact absurd HA.out (by simp [joins_Loop.l0])
  | succ k1 =>
   have H := HA.out
   clear HA
   simp only [joins_Loop.l0] at H
   by_cases c4 : x16_1 < (l0.length : Int)
   ·rw [if_pos c4] at H
    have c4b0 := decide_eq_true c4
    clear c4
    have H' := akk H
    clear H
    go_wp2
    go_loopg [10, 21] k1 (fun kq v10 v21 w' => ∃ (x10_2 : List (S71)) (x21_2 : Int), v21 = .int .i64 x21_2 ∧ Aside0 (joins_Loop.l1 kq l0 l1 l2 x8_1 x16_1 x10_2 (l0.length : Int) x16_1 (l1.length : Int) x21_2 = some (r1, r2)) ∧ Aside0 (kq ≤ k1) ∧ Aside0 (Kd.N (Kd.slice 29 (Kd.slice 39 k39)) 22 w' w.heap.size (fun k_ => (w.heap.size ≤ k_) ∧ some k_ ≠ (v10 : Value).ownBlock) u8 x8_1) ∧ Aside0 (Kd.R k71 71 w' w.heap.size (fun k_ => (w.heap.size ≤ k_)) v10 x10_2) ∧ Aside0 (Below w.heap.size w w'))
    case atStart => exact ⟨(([] : List (S71))), (0), eT, H', ⟨Nat.le_refl _⟩, ⟨nT' (Kd.N_mono HO_8.out (fun _ hk => ⟨hk, (by simp [Value.ownBlock])⟩))⟩, ⟨zT⟩, ⟨bT⟩⟩
    case round =>
     clear H'
     try clear c4b0
     obtain ⟨x10_2, x21_2, rfl, HA, HK2, HO_8, HO_10, HB⟩ := hrel
     cases gk with
     | zero => exact absurd HA.out (by simp [joins_Loop.l1])
     | succ k2 =>
      have H := HA.out
      clear HA
      simp only [joins_Loop.l1] at H
      by_cases c5 : x21_2 < (l1.length : Int)
      ·rw [if_pos c5] at H
       have c5b0 := decide_eq_true c5
       clear c5
       by_cases c6 : x10_2.length < 8796093022208
       ·rw [if_pos c6] at H
        have LMc6 := akk c6
        clear c6
        obtain ⟨y183, hy183⟩ : ∃ y_ : List (S71), y_ = (x10_2 ++ [(⟨x16_1, x21_2⟩ : S71)]) := ⟨_, rfl⟩
        replace H : (joins_Loop.l1 k2 l0 l1 l2 x8_1 x16_1 y183 (l0.length : Int) x16_1 (l1.length : Int) (wrap64 (x21_2 + 1))) = some (r1, r2) := jT hy183 H
        have Ny183 := akk hy183
        clear hy183
        have H' := akk H
        clear H
        go_wp2_with ((with_reducible refine gA #[.tmp 24, .tmp 28] rfl ?_); at_builtin; refine Kd.R_append k71 (w0 := w) w.heap.size rfl (.tmp 24) (.tmp 28) 69 71 (.agg #[(.int .i64 0), (.int .i64 0)]) 16 rfl Tryz.underlying69 info71 rfl (by decide) (by omega) u10 x10_2 (⟨x16_1, x21_2⟩ : S71) [.int .i64 x16_1, .int .i64 x21_2] (fun k_ => (w.heap.size ≤ k_)) (fun _ => False) rfl rfl ?aP (fun _ hk => hk.elim) ?aF ?aO ?aB ?aS ?aL ?_; (case aP => exact k71_mkM _ _ _ (⟨x16_1, x21_2⟩ : S71)); (case aB => exact bT); (case aF => exact (fun k_ hk => (Nat.le_trans (below_size bT) hk))); (case aO => exact (rT HO_10.out)); (case aS => exact (below_size bT)); (case aL => have := LMc6.out; omega); intro v184 w7 ho hb hg hat; rw [← Ny183.out] at ho; replace HO_8 := na HO_8 hg hat; replace HB := akk (hb); have HO185 := akk (ho); clear HO_10; clear ho hb hg hat)
        go_roundg k2
        case measure => have := HK1.out; have := HK2.out; omega
        case rel => exact ⟨(y183), (wrap64 (x21_2 + 1)), eT, H', ⟨by have := HK1.out; have := HK2.out; omega⟩, ⟨nT HO_8.out⟩, ⟨rT HO185.out⟩, ⟨bT⟩⟩
       ·rw [if_neg c6] at H
        exact absurd H (by simp)
      ·rw [if_neg c5] at H
       have c5b0 := decide_eq_false c5
       clear c5
       obtain ⟨⟨t186, t187⟩, A8, H⟩ := bi H
       try dsimp only at H
       by_cases c9 : t187 = 0
       ·rw [if_pos c9] at H
        have c9b0 : (t187 == 0) = true := beq_iff_eq.mpr c9
        have c9b1 : (t187 != 0) = false := bne_eq_false_iff_eq.mpr c9
        clear c9
        by_cases c10 : x8_1.length + t186.length < 5864062014805
        ·rw [if_pos c10] at H
         have LMc10 := akk c10
         clear c10
         obtain ⟨y190, hy190⟩ : ∃ y_ : T3, y_ = (x8_1 ++ t186) := ⟨_, rfl⟩
         replace H : (joins_Loop.l0 k2 l0 l1 l2 y190 (l0.length : Int) (wrap64 (x16_1 + 1))) = some (r1, r2) := jT hy190 H
         have Ny190 := akk hy190
         clear hy190
         have H' := akk H
         clear H
         obtain ⟨Ao11, co11, eo11⟩ := Kd.R_slice HO_10.out
         subst eo11
         go_wp2_with (first | (refine gT 39 (some 36) Tryz.func39 #[.slice A0 l0.length c0, .slice A1 l1.length c1, .slice Ao11 x10_2.length co11, .slice A2 l2.length c2] ?_; (with_reducible refine (joins_told.calls k2 _ _ l0 _ _ l1 _ _ x10_2 _ _ l2 t186 t187 _ ?_ ?_ ?_ ?_ ?_ ?_ ?_ ?_ A8.out).mono ?_); exact cT HR0.out; exact HC0.out; exact cT HR1.out; exact HC1.out; exact cV (Kd.R_reads' HO_10.out).2.2; exact (Kd.R_reads' HO_10.out).2.1; exact cT HR2.out; exact HC2.out; rintro e w12 ⟨v188, rfl, ho0, hb⟩; refine ⟨_, rfl, ?_⟩; have HO189 := akk (Kd.N_lower (Kd.N_mono (ok' := fun k_ => (w.heap.size ≤ k_) ∧ some k_ ≠ (u8 : Value).ownBlock ∧ some k_ ≠ (.slice Ao11 x10_2.length co11 : Value).ownBlock) (Kd.R_N (Kd.R_bound ho0)) (fun k_ hk_ => ⟨(Nat.le_trans (below_size bT) hk_.2.1), (Kd.fresh' (Kd.N_lt (nT HO_8.out)) k_ hk_.2.1), (Kd.fresh' (Kd.R_lt (rT HO_10.out)) k_ hk_.2.1)⟩)) (below_size bT)); replace HO_8 := ne HO_8 ho0 hb; replace HO_10 := rb HO_10 hb; replace HB := bb HB hb; (try clear hb); (try clear hb2); (try clear hk); (try clear hi); (try clear ho0); obtain ⟨Ao14, co14, eo14⟩ := Kd.N_slice HO189.out; subst eo14) | ((with_reducible refine gA #[.tmp 42, .tmp 43] rfl ?_); at_builtin; refine Kd.N_append_rows (Kd.slice 29 (Kd.slice 39 k39)) (w0 := w) w.heap.size rfl (.tmp 42) (.tmp 43) 25 22 (.slice none 0 0) 24 rfl Tryz.underlying25 info22 rfl (by decide) (by omega) u8 x8_1 t186 _ _ _ (fun k_ => (w.heap.size ≤ k_) ∧ some k_ ≠ (.slice Ao11 x10_2.length co11 : Value).ownBlock) (fun k_ => ((fun k_ => (w.heap.size ≤ k_) ∧ some k_ ≠ (.slice Ao11 x10_2.length co11 : Value).ownBlock)) k_ ∧ some k_ ≠ (u8 : Value).ownBlock) rfl rfl ?aO ?aR (fun _ hk => hk) ?aF ?aB ?aS ?aL ?_; (case aR => exact (by skip; exact Kd.N_F (Kd.N_mono (ok' := (fun k_ => ((fun k_ => (w.heap.size ≤ k_) ∧ some k_ ≠ (.slice Ao11 x10_2.length co11 : Value).ownBlock)) k_ ∧ some k_ ≠ (u8 : Value).ownBlock)) (HO189.out) (fun k_ hk => ⟨⟨hk.1, hk.2.2⟩, hk.2.1⟩)))); (case aB => exact bT); (case aF => exact (fun k_ hk => ⟨(Nat.le_trans (below_size bT) hk), Kd.fresh' (Kd.R_lt (rT HO_10.out)) k_ hk⟩)); (case aO => exact (nT' (Kd.N_mono HO_8.out (fun _ hk => ⟨hk.1.1, hk.1.2⟩)))); (case aS => exact (below_size bT)); (case aL => have := LMc10.out; omega); intro v191 w13 ho hb hg hat; rw [← Ny190.out] at ho; replace HO_10 := akk (Kd.R_over' (rT HO_10.out) (Kd.N_typed (nT HO_8.out)) (by decide) hg); replace HO189 := akk (Kd.N_afterv (ok := (fun k_ => (w.heap.size ≤ k_) ∧ some k_ ≠ (.slice Ao11 x10_2.length co11 : Value).ownBlock)) (nT' (Kd.N_mono HO189.out (fun _ hk => ⟨⟨hk.1, hk.2.2⟩, hk.2.1⟩))) hg hat); replace HB := akk (hb); have HO192 := akk (ho); clear HO_8; clear ho hb hg hat))
         go_roundg k2
         case measure => have := HK1.out; have := HK2.out; omega
         case rel => exact ⟨(y190), (wrap64 (x16_1 + 1)), eT, H', ⟨by have := HK1.out; have := HK2.out; omega⟩, ⟨nT' (Kd.N_mono HO192.out (fun _ hk => hk.1))⟩, ⟨bT⟩⟩
        ·rw [if_neg c10] at H
         exact absurd H (by simp)
       ·rw [if_neg c9] at H
        have c9b0 : (t187 == 0) = false := beq_eq_false_iff_ne.mpr c9
        have c9b1 : (t187 != 0) = true := bne_iff_ne.mpr c9
        simp only [Option.some.injEq, Prod.mk.injEq] at H
        obtain ⟨rfl, rfl⟩ := H
        obtain ⟨Ao15, co15, eo15⟩ := Kd.R_slice HO_10.out
        subst eo15
        go_wp2_with (refine gT 39 (some 36) Tryz.func39 #[.slice A0 l0.length c0, .slice A1 l1.length c1, .slice Ao15 x10_2.length co15, .slice A2 l2.length c2] ?_; (with_reducible refine (joins_told.calls k2 _ _ l0 _ _ l1 _ _ x10_2 _ _ l2 t186 t187 _ ?_ ?_ ?_ ?_ ?_ ?_ ?_ ?_ A8.out).mono ?_); exact cT HR0.out; exact HC0.out; exact cT HR1.out; exact HC1.out; exact cV (Kd.R_reads' HO_10.out).2.2; exact (Kd.R_reads' HO_10.out).2.1; exact cT HR2.out; exact HC2.out; rintro e w16 ⟨v188, rfl, ho0, hb⟩; refine ⟨_, rfl, ?_⟩; have HO189 := akk (Kd.N_lower (Kd.N_mono (ok' := fun k_ => (w.heap.size ≤ k_) ∧ some k_ ≠ (u8 : Value).ownBlock ∧ some k_ ≠ (.slice Ao15 x10_2.length co15 : Value).ownBlock) (Kd.R_N (Kd.R_bound ho0)) (fun k_ hk_ => ⟨(Nat.le_trans (below_size bT) hk_.2.1), (Kd.fresh' (Kd.N_lt (nT HO_8.out)) k_ hk_.2.1), (Kd.fresh' (Kd.R_lt (rT HO_10.out)) k_ hk_.2.1)⟩)) (below_size bT)); replace HO_8 := ne HO_8 ho0 hb; replace HO_10 := rb HO_10 hb; replace HB := bb HB hb; clear hb ho0)
        go_ret2
        exact ⟨_, fT, zT, bT⟩
   ·rw [if_neg c4] at H
    have c4b0 := decide_eq_false c4
    clear c4
    simp only [Option.some.injEq, Prod.mk.injEq] at H
    obtain ⟨rfl, rfl⟩ := H
    go_wp2
    go_ret2
    exact ⟨_, fT, nT' HO_8.out, bT⟩
def r04_Exact.f (a0_0 : Int) (a0_1 : Int) (a0_2 : Nat) (a0_3 : ByteArray) (a1_0 : Int) (a1_1 : Int) (a1_2 : Nat) (a1_3 : ByteArray) : Option (Bool) := exactF ⟨a0_0, a0_1, a0_2, a0_3⟩ ⟨a1_0, a1_1, a1_2, a1_3⟩
theorem r04_Exact.calls (a0_0 : Int) (a0_1 : Int) (a0_2 : Nat) (a0_3 : ByteArray) (a1_0 : Int) (a1_1 : Int) (a1_2 : Nat) (a1_3 : ByteArray) (r : Bool) (w : World) (h : r04_Exact.f a0_0 a0_1 a0_2 a0_3 a1_0 a1_1 a1_2 a1_3 = some r) :
 Calls Tryz.prog 38 #[.agg #[.int .i64 a0_0, .int .i64 a0_1, .float .f64 a0_2, .string a0_3], .agg #[.int .i64 a1_0, .int .i64 a1_1, .float .f64 a1_2, .string a1_3]] w fun e w' => e = .returned (.bool r) ∧ Below w.heap.size w w' := by
 unfold r04_Exact.f exactF at h
 split at h
 ·rename_i hc
  simp only [Bool.and_eq_true, decide_eq_true_eq, wfV] at hc
  cases h
  exact Exact_true _ _ hc.1 hc.2.1 hc.2.2 w
 ·cases h
def r05_Exact.l0 : Nat → List (S39) → List (S39) → Int → Option (Bool)
 | 0, _, _, _ => none
 | k + 1, x0, x1, x5 => if x5 < (x0.length : Int) then (if 0 ≤ x5 then (if x5 < (x1.length : Int) then ((r04_Exact.f ((rd_T39 x0 x5).f0) ((rd_T39 x0 x5).f1) ((rd_T39 x0 x5).f2) ((rd_T39 x0 x5).f3) ((rd_T39 x1 x5).f0) ((rd_T39 x1 x5).f1) ((rd_T39 x1 x5).f2) ((rd_T39 x1 x5).f3)).bind fun t228 => (if t228 = true then (r05_Exact.l0 k x0 x1 (wrap64 (x5 + 1))) else (some false))) else (none)) else (none)) else (some true)
def r05_Exact.f (k : Nat) (l0 : List (S39)) (l1 : List (S39)) : Option (Bool) := if (l0.length : Int) = (l1.length : Int) then (r05_Exact.l0 k l0 l1 0) else (some false)
def r05_Exact.T6 : Bool × List (List Nat × List Nat) := (true, [([], []), ([], []), ([0, 1], [0, 1]), ([2], [2]), ([], []), ([], []), ([4, 5], [4, 5]), ([6], [6]), ([3, 7], [3, 7]), ([8], [8])])
def r05_Exact.B6 : List Nat := [0, 0, 3, 7, 0, 0, 48, 112, 255, 511]
theorem r05_Exact.tab6 : rtab .any (opsOf Tryz.f14 6) = r05_Exact.T6 := by kernel_rfl
theorem r05_Exact.bits6 : waitsOk r05_Exact.T6.2 r05_Exact.B6 = true := by kernel_rfl
set_option maxHeartbeats 8000000 in
set_option maxRecDepth 100000 in
theorem r05_Exact.calls (k : Nat) (A0 : Option Addr) (c0 : Nat) (l0 : List (S39)) (A1 : Option Addr) (c1 : Nat) (l1 : List (S39)) (r : Bool) (w : World) (hr0 : Kd.C k39 w A0 l0.length l0) (hc0 : l0.length ≤ c0) (hr1 : Kd.C k39 w A1 l1.length l1) (hc1 : l1.length ≤ c1) (h : r05_Exact.f k l0 l1 = some r) :
 Calls Tryz.prog 14 #[.slice A0 l0.length c0, .slice A1 l1.length c1] w fun e w' => e = .returned (.bool r) ∧ Below w.heap.size w w' := by
 have hu39 := Tryz.underlying39
 have HR0 := akk hr0
 have HC0 := akk hc0
 clear hr0 hc0
 have HR1 := akk hr1
 have HC1 := akk hc1
 clear hr1 hc1
 have HB := akk (Below.refl w.heap.size w)
 have H : (if (l0.length : Int) = (l1.length : Int) then (r05_Exact.l0 k l0 l1 0) else (some false)) = some r := h
 clear h
 by_cases c3 : (l0.length : Int) = (l1.length : Int)
 ·rw [if_pos c3] at H
  have c3b0 : ((l0.length : Int) == (l1.length : Int)) = true := beq_iff_eq.mpr c3
  have c3b1 : ((l0.length : Int) != (l1.length : Int)) = false := bne_eq_false_iff_eq.mpr c3
  have c3b2 : (l0.length == l1.length) = true := by first | simpa using c3 | (simp at c3 ⊢; omega)
  clear c3
  have H' := akk H
  clear H
  go_enter Tryz.func14, Tryz.ntmps14
  go_wp2
  go_loopg [5] k (fun kq v5 w' => ∃ (x5_1 : Int), v5 = .int .i64 x5_1 ∧ Aside0 (r05_Exact.l0 kq l0 l1 x5_1 = some r) ∧ Aside0 (kq ≤ k) ∧ Aside0 (Below w.heap.size w w'))
  case atStart => exact ⟨(0), eT, H', ⟨Nat.le_refl _⟩, ⟨bT⟩⟩
  case round =>
   clear H'
   try clear c3b0
   try clear c3b1
   try clear c3b2
   obtain ⟨x5_1, rfl, HA, HK1, HB⟩ := hrel
   cases gk with
   | zero => exact absurd HA.out (by simp [r05_Exact.l0])
   | succ k1 =>
    have H := HA.out
    clear HA
    simp only [r05_Exact.l0] at H
    by_cases c4 : x5_1 < (l0.length : Int)
    ·rw [if_pos c4] at H
     have c4b0 := decide_eq_true c4
     clear c4
     by_cases c5 : 0 ≤ x5_1
     ·rw [if_pos c5] at H
      have c5b0 := decide_eq_true c5
      clear c5
      by_cases c6 : x5_1 < (l1.length : Int)
      ·rw [if_pos c6] at H
       have c6b0 := decide_eq_true c6
       clear c6
       obtain ⟨t228, A7, H⟩ := bi H
       try dsimp only at H
       by_cases c8 : t228 = true
       ·subst c8
        rw [if_pos rfl] at H
        have H' := akk H
        clear H
        try go_wp2
        replace HB := akk (below_drew1 HB.out)
        have p226 : 0 ≤ (x5_1 : Int) := of_decide_eq_true aT
        have q226 : x5_1 < (l0.length : Int) := of_decide_eq_true aT
        obtain ⟨ad226, e226, hx226_0, hx226_1, hx226_2, hx226_3⟩ := at_T39 HR0.out x5_1 p226 q226
        have hw226_3 := hx226_3
        have hw226_2 := hx226_2
        have hw226_1 := hx226_1
        have hw226_0 := hx226_0
        cases e226
        replace hx226_0 := hxT HB.out hx226_0
        replace hx226_1 := hxT HB.out hx226_1
        replace hx226_2 := hxT HB.out hx226_2
        replace hx226_3 := hxT HB.out hx226_3
        replace p226 := eq_true p226
        replace q226 := eq_true q226
        have p227 : 0 ≤ (x5_1 : Int) := of_decide_eq_true aT
        have q227 : x5_1 < (l1.length : Int) := of_decide_eq_true aT
        obtain ⟨ad227, e227, hx227_0, hx227_1, hx227_2, hx227_3⟩ := at_T39 HR1.out x5_1 p227 q227
        have hw227_3 := hx227_3
        have hw227_2 := hx227_2
        have hw227_1 := hx227_1
        have hw227_0 := hx227_0
        cases e227
        replace hx227_0 := hxT HB.out hx227_0
        replace hx227_1 := hxT HB.out hx227_1
        replace hx227_2 := hxT HB.out hx227_2
        replace hx227_3 := hxT HB.out hx227_3
        replace p227 := eq_true p227
        replace q227 := eq_true q227
        refine start_ (n := 10) (S := fun w' => w'.cell? (ad226.add ((x5_1).toNat * 4)) = some (.int .i64 ((rd_T39 l0 x5_1).f0)) ∧ w'.cell? ⟨(ad226.add ((x5_1).toNat * 4)).block, (ad226.add ((x5_1).toNat * 4)).off + 1, none⟩ = some (.int .i64 ((rd_T39 l0 x5_1).f1)) ∧ w'.cell? ⟨(ad226.add ((x5_1).toNat * 4)).block, (ad226.add ((x5_1).toNat * 4)).off + 2, none⟩ = some (.float .f64 ((rd_T39 l0 x5_1).f2)) ∧ w'.cell? ⟨(ad226.add ((x5_1).toNat * 4)).block, (ad226.add ((x5_1).toNat * 4)).off + 3, none⟩ = some (.string ((rd_T39 l0 x5_1).f3)) ∧ w'.cell? (ad227.add ((x5_1).toNat * 4)) = some (.int .i64 ((rd_T39 l1 x5_1).f0)) ∧ w'.cell? ⟨(ad227.add ((x5_1).toNat * 4)).block, (ad227.add ((x5_1).toNat * 4)).off + 1, none⟩ = some (.int .i64 ((rd_T39 l1 x5_1).f1)) ∧ w'.cell? ⟨(ad227.add ((x5_1).toNat * 4)).block, (ad227.add ((x5_1).toNat * 4)).off + 2, none⟩ = some (.float .f64 ((rd_T39 l1 x5_1).f2)) ∧ w'.cell? ⟨(ad227.add ((x5_1).toNat * 4)).block, (ad227.add ((x5_1).toNat * 4)).off + 3, none⟩ = some (.string ((rd_T39 l1 x5_1).f3))) (ds := []) #[false, false, false, false, false, false, false, false, false, false] (by kernel_rfl) rfl rfl ⟨((HB.out.cell (World.block_lt_of_cell? w _ hw226_0)).trans hw226_0), ((HB.out.cell (World.block_lt_of_cell? w _ hw226_1)).trans hw226_1), ((HB.out.cell (World.block_lt_of_cell? w _ hw226_2)).trans hw226_2), ((HB.out.cell (World.block_lt_of_cell? w _ hw226_3)).trans hw226_3), ((HB.out.cell (World.block_lt_of_cell? w _ hw227_0)).trans hw227_0), ((HB.out.cell (World.block_lt_of_cell? w _ hw227_1)).trans hw227_1), ((HB.out.cell (World.block_lt_of_cell? w _ hw227_2)).trans hw227_2), ((HB.out.cell (World.block_lt_of_cell? w _ hw227_3)).trans hw227_3)⟩ (fun hHeld => ?_); refine with_tabW r05_Exact.tab6 r05_Exact.bits6 (fun HT_ HW_ => ?_)
        generalize wr.drew = w9 at HB hx226_0 hx226_1 hx226_2 hx226_3 hx227_0 hx227_1 hx227_2 hx227_3 hHeld ⊢
        refine pT 0 17 (bm 10 1) ?_
        refine pT 1 18 (bm 10 3) ?_
        refine pT 2 19 (bm 10 7) ?_
        refine pT 4 21 (bm 10 23) ?_
        refine pT 5 22 (bm 10 55) ?_
        refine pT 6 23 (bm 10 119) ?_
        refine tT8 3 20 (bm 10 127) hHeld ?_
        refine tT8 7 24 (bm 10 255) hHeld ?_
        refine one_ (i := 8) (N := some 25) #[true, true, true, true, true, true, true, true, true, false] rfl rfl (one_of HT_.out (by kernel_rfl)) (by decide) (fun K hK => ?_)
        refine goes_ Tryz.func38 (by kernel_rfl) rfl #[.agg #[.int .i64 ((rd_T39 l0 x5_1).f0), .int .i64 ((rd_T39 l0 x5_1).f1), .float .f64 ((rd_T39 l0 x5_1).f2), .string ((rd_T39 l0 x5_1).f3)], .agg #[.int .i64 ((rd_T39 l1 x5_1).f0), .int .i64 ((rd_T39 l1 x5_1).f1), .float .f64 ((rd_T39 l1 x5_1).f2), .string ((rd_T39 l1 x5_1).f3)]] (by rfl) rfl rfl mT ?_
        with_reducible refine (r04_Exact.calls ((rd_T39 l0 x5_1).f0) ((rd_T39 l0 x5_1).f1) ((rd_T39 l0 x5_1).f2) ((rd_T39 l0 x5_1).f3) ((rd_T39 l1 x5_1).f0) ((rd_T39 l1 x5_1).f1) ((rd_T39 l1 x5_1).f2) ((rd_T39 l1 x5_1).f3) true _ A7.out).mono ?_
        rintro e w10 ⟨rfl, hb⟩
        refine ⟨_, rfl, ?_⟩
        replace HB := bb HB hb
        (try clear hb)
        (try clear hb2)
        (try clear hk)
        (try clear hi)
        refine hK.out _ _ ⟨((HB.out.cell (World.block_lt_of_cell? w _ hw226_0)).trans hw226_0), ((HB.out.cell (World.block_lt_of_cell? w _ hw226_1)).trans hw226_1), ((HB.out.cell (World.block_lt_of_cell? w _ hw226_2)).trans hw226_2), ((HB.out.cell (World.block_lt_of_cell? w _ hw226_3)).trans hw226_3), ((HB.out.cell (World.block_lt_of_cell? w _ hw227_0)).trans hw227_0), ((HB.out.cell (World.block_lt_of_cell? w _ hw227_1)).trans hw227_1), ((HB.out.cell (World.block_lt_of_cell? w _ hw227_2)).trans hw227_2), ((HB.out.cell (World.block_lt_of_cell? w _ hw227_3)).trans hw227_3)⟩ (fun hHeld => ?_)
        clear hK K
        refine norm_ (a' := ?_) ?_ ?_
        rotate_left
        ·show Act.put _ (some 25) _ = _
         simp only [Act.put, List.setIfInBounds_toArray, List.set_cons_zero, List.set_cons_succ, i64_w, i32_w]
         rfl
        refine pT 9 26 (bm 10 1023) ?_
        refine done_ (done_of HT_.out (by kernel_rfl)) ?_
        try go_wp2
        go_roundg k1
        case measure => have := HK1.out; omega
        case rel => exact ⟨(wrap64 (x5_1 + 1)), eT, H', ⟨by have := HK1.out; omega⟩, ⟨bT⟩⟩
       ·replace c8 := Bool.eq_false_iff.mpr c8
        subst c8
        rw [if_neg (show ¬ (false = true) by decide)] at H
        obtain rfl := Option.some.inj H
        try go_wp2
        replace HB := akk (below_drew1 HB.out)
        have p226 : 0 ≤ (x5_1 : Int) := of_decide_eq_true aT
        have q226 : x5_1 < (l0.length : Int) := of_decide_eq_true aT
        obtain ⟨ad226, e226, hx226_0, hx226_1, hx226_2, hx226_3⟩ := at_T39 HR0.out x5_1 p226 q226
        have hw226_3 := hx226_3
        have hw226_2 := hx226_2
        have hw226_1 := hx226_1
        have hw226_0 := hx226_0
        cases e226
        replace hx226_0 := hxT HB.out hx226_0
        replace hx226_1 := hxT HB.out hx226_1
        replace hx226_2 := hxT HB.out hx226_2
        replace hx226_3 := hxT HB.out hx226_3
        replace p226 := eq_true p226
        replace q226 := eq_true q226
        have p227 : 0 ≤ (x5_1 : Int) := of_decide_eq_true aT
        have q227 : x5_1 < (l1.length : Int) := of_decide_eq_true aT
        obtain ⟨ad227, e227, hx227_0, hx227_1, hx227_2, hx227_3⟩ := at_T39 HR1.out x5_1 p227 q227
        have hw227_3 := hx227_3
        have hw227_2 := hx227_2
        have hw227_1 := hx227_1
        have hw227_0 := hx227_0
        cases e227
        replace hx227_0 := hxT HB.out hx227_0
        replace hx227_1 := hxT HB.out hx227_1
        replace hx227_2 := hxT HB.out hx227_2
        replace hx227_3 := hxT HB.out hx227_3
        replace p227 := eq_true p227
        replace q227 := eq_true q227
        refine start_ (n := 10) (S := fun w' => w'.cell? (ad226.add ((x5_1).toNat * 4)) = some (.int .i64 ((rd_T39 l0 x5_1).f0)) ∧ w'.cell? ⟨(ad226.add ((x5_1).toNat * 4)).block, (ad226.add ((x5_1).toNat * 4)).off + 1, none⟩ = some (.int .i64 ((rd_T39 l0 x5_1).f1)) ∧ w'.cell? ⟨(ad226.add ((x5_1).toNat * 4)).block, (ad226.add ((x5_1).toNat * 4)).off + 2, none⟩ = some (.float .f64 ((rd_T39 l0 x5_1).f2)) ∧ w'.cell? ⟨(ad226.add ((x5_1).toNat * 4)).block, (ad226.add ((x5_1).toNat * 4)).off + 3, none⟩ = some (.string ((rd_T39 l0 x5_1).f3)) ∧ w'.cell? (ad227.add ((x5_1).toNat * 4)) = some (.int .i64 ((rd_T39 l1 x5_1).f0)) ∧ w'.cell? ⟨(ad227.add ((x5_1).toNat * 4)).block, (ad227.add ((x5_1).toNat * 4)).off + 1, none⟩ = some (.int .i64 ((rd_T39 l1 x5_1).f1)) ∧ w'.cell? ⟨(ad227.add ((x5_1).toNat * 4)).block, (ad227.add ((x5_1).toNat * 4)).off + 2, none⟩ = some (.float .f64 ((rd_T39 l1 x5_1).f2)) ∧ w'.cell? ⟨(ad227.add ((x5_1).toNat * 4)).block, (ad227.add ((x5_1).toNat * 4)).off + 3, none⟩ = some (.string ((rd_T39 l1 x5_1).f3))) (ds := []) #[false, false, false, false, false, false, false, false, false, false] (by kernel_rfl) rfl rfl ⟨((HB.out.cell (World.block_lt_of_cell? w _ hw226_0)).trans hw226_0), ((HB.out.cell (World.block_lt_of_cell? w _ hw226_1)).trans hw226_1), ((HB.out.cell (World.block_lt_of_cell? w _ hw226_2)).trans hw226_2), ((HB.out.cell (World.block_lt_of_cell? w _ hw226_3)).trans hw226_3), ((HB.out.cell (World.block_lt_of_cell? w _ hw227_0)).trans hw227_0), ((HB.out.cell (World.block_lt_of_cell? w _ hw227_1)).trans hw227_1), ((HB.out.cell (World.block_lt_of_cell? w _ hw227_2)).trans hw227_2), ((HB.out.cell (World.block_lt_of_cell? w _ hw227_3)).trans hw227_3)⟩ (fun hHeld => ?_); refine with_tabW r05_Exact.tab6 r05_Exact.bits6 (fun HT_ HW_ => ?_)
        generalize wr.drew = w11 at HB hx226_0 hx226_1 hx226_2 hx226_3 hx227_0 hx227_1 hx227_2 hx227_3 hHeld ⊢
        refine pT 0 17 (bm 10 1) ?_
        refine pT 1 18 (bm 10 3) ?_
        refine pT 2 19 (bm 10 7) ?_
        refine pT 4 21 (bm 10 23) ?_
        refine pT 5 22 (bm 10 55) ?_
        refine pT 6 23 (bm 10 119) ?_
        refine tT8 3 20 (bm 10 127) hHeld ?_
        refine tT8 7 24 (bm 10 255) hHeld ?_
        refine one_ (i := 8) (N := some 25) #[true, true, true, true, true, true, true, true, true, false] rfl rfl (one_of HT_.out (by kernel_rfl)) (by decide) (fun K hK => ?_)
        refine goes_ Tryz.func38 (by kernel_rfl) rfl #[.agg #[.int .i64 ((rd_T39 l0 x5_1).f0), .int .i64 ((rd_T39 l0 x5_1).f1), .float .f64 ((rd_T39 l0 x5_1).f2), .string ((rd_T39 l0 x5_1).f3)], .agg #[.int .i64 ((rd_T39 l1 x5_1).f0), .int .i64 ((rd_T39 l1 x5_1).f1), .float .f64 ((rd_T39 l1 x5_1).f2), .string ((rd_T39 l1 x5_1).f3)]] (by rfl) rfl rfl mT ?_
        with_reducible refine (r04_Exact.calls ((rd_T39 l0 x5_1).f0) ((rd_T39 l0 x5_1).f1) ((rd_T39 l0 x5_1).f2) ((rd_T39 l0 x5_1).f3) ((rd_T39 l1 x5_1).f0) ((rd_T39 l1 x5_1).f1) ((rd_T39 l1 x5_1).f2) ((rd_T39 l1 x5_1).f3) false _ A7.out).mono ?_
        rintro e w12 ⟨rfl, hb⟩
        refine ⟨_, rfl, ?_⟩
        replace HB := bb HB hb
        (try clear hb)
        (try clear hb2)
        (try clear hk)
        (try clear hi)
        refine hK.out _ _ ⟨((HB.out.cell (World.block_lt_of_cell? w _ hw226_0)).trans hw226_0), ((HB.out.cell (World.block_lt_of_cell? w _ hw226_1)).trans hw226_1), ((HB.out.cell (World.block_lt_of_cell? w _ hw226_2)).trans hw226_2), ((HB.out.cell (World.block_lt_of_cell? w _ hw226_3)).trans hw226_3), ((HB.out.cell (World.block_lt_of_cell? w _ hw227_0)).trans hw227_0), ((HB.out.cell (World.block_lt_of_cell? w _ hw227_1)).trans hw227_1), ((HB.out.cell (World.block_lt_of_cell? w _ hw227_2)).trans hw227_2), ((HB.out.cell (World.block_lt_of_cell? w _ hw227_3)).trans hw227_3)⟩ (fun hHeld => ?_)
        clear hK K
        refine norm_ (a' := ?_) ?_ ?_
        rotate_left
        ·show Act.put _ (some 25) _ = _
         simp only [Act.put, List.setIfInBounds_toArray, List.set_cons_zero, List.set_cons_succ, i64_w, i32_w]
         rfl
        refine pT 9 26 (bm 10 1023) ?_
        refine done_ (done_of HT_.out (by kernel_rfl)) ?_
        try go_wp2
        go_ret
        exact ⟨fT, bT⟩
      ·rw [if_neg c6] at H
       exact absurd H (by simp)
     ·rw [if_neg c5] at H
      exact absurd H (by simp)
    ·rw [if_neg c4] at H
     have c4b0 := decide_eq_false c4
     clear c4
     obtain rfl := Option.some.inj H
     go_wp2
     go_ret
     exact ⟨fT, bT⟩
 ·rw [if_neg c3] at H
  have c3b0 : ((l0.length : Int) == (l1.length : Int)) = false := beq_eq_false_iff_ne.mpr c3
  have c3b1 : ((l0.length : Int) != (l1.length : Int)) = true := bne_iff_ne.mpr c3
  have c3b2 : (l0.length == l1.length) = false := by first | simpa using c3 | (simp at c3 ⊢; omega)
  obtain rfl := Option.some.inj H
  go_enter Tryz.func14, Tryz.ntmps14
  go_wp2
  go_ret
  exact ⟨fT, bT⟩
end Go.Proofs.YtgmolmpfihkolaaGreat.Pj
