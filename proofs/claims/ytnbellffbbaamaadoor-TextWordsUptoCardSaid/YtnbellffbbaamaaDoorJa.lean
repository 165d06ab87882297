/- walks: Join, both; the law on Join -/
import Derived.Test.YtnbellffbbaamaaDoorLa
import Derived.Test.YtnbellffbbaamaaDoorJplain
import Derived.Test.YtnbellffbbaamaaDoorUb
import Derived.Lib.AppendStr
namespace Go.Proofs.YtnbellffbbaamaaDoor
open Go.RowKit
open Tx
theorem append_str {ops : Array Oper} {rest : List Oper} {o : Oper} {a : Act} {Q : Exit → Act → World → Prop} (hgd : o.guard = none) (s x : Operand)
    (ho : o.op = .call { callee := .builtin .append, args := #[s, x], argTypes := #[41, 9] }) (v : Value) (out : List UInt8) (t : ByteArray) (B : Nat) (w wr : World)
    (own : Own wr B v out) (bel : Below B w wr) (hB : B ≤ wr.heap.size) (len : out.length + t.size ≤ 140737488355328) (hs : a.eval s = v) (hx : a.eval x = .string t)
    (h : ∀ v' w', Hid (Own w' B v' (out ++ t.data.toList)) → Hid (Below B w w') → wpList Tryd.prog ops Q rest (a.put o.dst v') w') : wpList Tryd.prog ops Q (o :: rest) a wr := by
  obtain ⟨i0, hi, hz0, hz1, hz2⟩ := info_parts info5
  refine Lib.wpList_append_own_string _ hgd s x 41 9 ho B 5 i0 Tryd.underlying41 Tryd.underlying9 hi hz0 hz1 hz2 v out.length (Lib.byteCells out) hs own t hx ?_ len hB ?_
  · unfold maxLen; omega
  · intro v' w' h1 h2 _
    refine h v' w' (Lib.hid ?_) (Lib.hid ?_)
    · have e : Lib.byteCells out ++ Lib.strCells t = Lib.byteCells (out ++ t.data.toList) := by rw [Lib.strCells_eq]; simp [Lib.byteCells]
      rw [e] at h1
      show w'.ownsRow B 5 1 v' (out ++ t.data.toList).length (Lib.byteCells (out ++ t.data.toList))
      rw [List.length_append, ← size_len]; exact h1
    · exact bel.grown h2 hB (fun k hk => (own.lt k hk).1)
theorem sjoin_is (g o cap : Nat) (L : List ByteArray) (t : ByteArray) (w : World) (ht : t = ⟨(Lib.join (L.map (·.data.toList)) [10]).toArray⟩) (hg : g < w.heap.size) (h1 : L.length ≤ cap) (hc : ∀ (j : Nat) x, L[j]? = some x → w.cell? ⟨g, o + j, none⟩ = some (.string x)) (hs : fullB L ≤ 1048576) :
    Calls Tryd.prog 27 #[.slice (some ⟨g, o, none⟩) L.length cap, .string ⟨#[10]⟩] w fun e w' => e = .returned (.string t) ∧ Below w.heap.size w w' := by
  have a := join_le L
  have b := fullB_ge L
  rw [ht]
  exact Tryd.strings_Join g o cap L ⟨#[10]⟩ w hc hg (by omega) h1 (by show (Lib.join (L.map (·.data.toList)) [10]).length ≤ 140737488355328; omega)
set_option maxHeartbeats 1000000 in
theorem join_any (v : Value) (L : List ByteArray) (e0 : Bool) (t : ByteArray) (w : World) (hS : Strs w v L) (hs : fullB L ≤ 1048576) (ht : t = ⟨(joinL L e0).toArray⟩) :
    Calls Tryd.prog 11 #[v, .bool e0] w fun e w' => e = .returned (.string t) ∧ Below w.heap.size w w' := by
  have m1 := hS.len
  unfold maxLen at m1
  by_cases h0 : L = []
  · subst h0
    obtain ⟨a, cap, rfl⟩ := hS.nil
    have et : t = ⟨#[]⟩ := by rw [ht]; simp [joinL, Lib.join_nil]
    subst et
    clear hS ht hs m1
    cases e0
    all_goals go_enter Tryd.func11, Tryd.ntmps11
    all_goals go_wp2_with (go_at_call 27; refine (Tryd.strings_Join_none a cap ⟨#[10]⟩ _).mono ?_; rintro e w' ⟨rfl, rfl⟩)
    all_goals go_ret
    all_goals exact ⟨rfl, Below.refl _ _⟩
  · obtain ⟨g, o, cap, rfl, hl, hm, hg, hc⟩ := hS.cons h0
    have CA := Lib.hid (fun t0 ht0 => sjoin_is g o cap L t0 w ht0 hg hl hc hs)
    have hpos : 0 < L.length := List.length_pos_iff.2 h0
    obtain ⟨t0, ht0⟩ : ∃ t0, t0 = (⟨(Lib.join (L.map (·.data.toList)) [10]).toArray⟩ : ByteArray) := ⟨_, rfl⟩
    have TZ : t0.size ≤ 1048576 := by rw [ht0]; have := join_le L; show (Lib.join (L.map (·.data.toList)) [10]).length ≤ 1048576; omega
    obtain ⟨n, hn⟩ : ∃ n, L.length = n := ⟨_, rfl⟩
    cases e0
    · have et : t = t0 := by rw [ht, ht0]; congr 1; unfold joinL; rw [if_neg (fun x => by cases x.1), List.append_nil]
      subst et
      have CB := Lib.hid (CA.out t ht0); clear CA
      rw [hn] at CB hpos m1 ⊢
      clear hS ht ht0 hn hl hm hg hc hs h0
      go_enter Tryd.func11, Tryd.ntmps11
      go_wp2_with (go_at_call 27; refine CB.out.mono ?_; rintro e w' ⟨rfl, hb⟩)
      go_ret
      exact ⟨rfl, hb⟩
    · have et : t = t0 ++ ⟨#[10]⟩ := by
        apply str_ext
        rw [ht, ht0]; unfold joinL; rw [if_pos ⟨rfl, h0⟩]; simp
      subst et
      have CB := Lib.hid (CA.out t0 ht0); clear CA
      rw [hn] at CB hpos m1 ⊢
      clear hS ht ht0 hn hl hm hg hc hs h0
      go_enter Tryd.func11, Tryd.ntmps11
      go_wp2_with (go_at_call 27; refine CB.out.mono ?_; rintro e w' ⟨rfl, hb⟩)
      go_ret
      exact ⟨rfl, hb⟩
set_option maxHeartbeats 1000000 in
theorem rjoin_any (v : Value) (L : List ByteArray) (e0 : Bool) (w : World) (hS : Strs w v L) (hs : fullB L ≤ 1048576) :
    Calls Tryd.prog 12 #[v, .bool e0] w fun e w' => e = .returned (.string ⟨(joinL L e0).toArray⟩) ∧ Below w.heap.size w w' := by
  have m1 := hS.len
  unfold maxLen at m1
  have HS := Lib.hid hS
  have FB := Lib.hid hs
  obtain ⟨n, hn⟩ : ∃ n, L.length = n := ⟨_, rfl⟩
  have HN := Lib.hid hn
  have HV : ∃ a cap, v = .slice a n cap := by obtain ⟨a, cap, h, _⟩ := hS; exact ⟨a, cap, by rw [h, hn]⟩
  have BN : n ≤ 1048576 := by have := fullB_ge L; omega
  clear hS hs m1 hn
  obtain ⟨a, cap, rfl⟩ := HV
  go_enter Tryd.func12, Tryd.ntmps12
  go_wp2_with fail
  go_loopw [5, 6] (fun b i wr => ∃ (j : Nat) (out : List UInt8), i = .int .i64 j ∧ j ≤ n ∧ Hid (out = if j = n then joinL L e0 else nlcat (L.take j)) ∧ Hid (Own wr w.heap.size b out) ∧ Hid (Below w.heap.size w wr)) (fun _ i _ => n - (intOf i).toNat)
  case atStart =>
    refine ⟨0, [], rfl, by omega, Lib.hid ?_, Lib.hid ⟨by simp [Lib.byteCells], .inl ⟨rfl, rfl⟩⟩, Lib.hid (Below.refl _ _)⟩
    split
    · rename_i h
      have : L = [] := List.eq_nil_of_length_eq_zero (by have := HN.out; omega)
      rw [this]; simp [joinL, Lib.join_nil]
    · simp [nlcat]
  case round =>
    obtain ⟨j, out, rfl, js, OE, OW, Br⟩ := hrel
    by_cases hlt : j < n
    · have x1 : j < L.length := by have := HN.out; omega
      obtain ⟨g, o, cap', e, _, _, hg, hc⟩ := (HS.out.below Br.out).cons (by intro e; rw [e] at x1; simp at x1)
      rw [HN.out] at e
      simp only [Value.slice.injEq] at e
      obtain ⟨rfl, _, rfl⟩ := e
      have k1 := hc j _ (List.getElem?_eq_getElem x1)
      have SN := nlcat_snoc L j x1
      have OL : out = nlcat (L.take j) := by rw [OE.out, if_neg (by omega)]
      have LN : out.length + L[j].size + 1 ≤ 1048576 := by
        have h1 := fullB_snoc L j x1
        have h2 := fullB_le L (j + 1) L.length (by omega)
        rw [List.take_length] at h2
        rw [OL, nlcat_len]; have := FB.out; omega
      have JO := fun h => joinL_open L j h
      have JE := joinL_end L
      have TL := List.take_length (l := L)
      obtain ⟨y, hy⟩ : ∃ y, L[j] = y := ⟨_, rfl⟩
      rw [hy] at k1 LN SN
      simp only [hy] at JO
      rw [← OL] at SN JO
      have ST := Lib.hid (And.intro SN (And.intro JO (And.intro JE TL)))
      have HL := Lib.hid LN
      have HG := Lib.hid hg
      clear hc SN OL JO JE TL hy x1 LN hg
      cases e0 with
      | true =>
        go_wp2_with (first
          | (at_builtin; (first
            | (refine append_str rfl _ _ rfl _ out y w.heap.size w _ OW.out Br.out Br.out.size (by have := HL.out; omega) rfl rfl ?_; intro v2 w2 own2 bel2)
            | (refine append_byte rfl _ _ rfl _ (out ++ y.data.toList) 10 _ rfl w.heap.size w _ own2.out bel2.out bel2.out.size (by have := HL.out; rw [List.length_append, ← size_len]; omega) rfl rfl ?_; intro v3 w3 own3 bel3)))
          | go_in)
        rw [← ST.out.1] at own3
        go_roundw
        case rel =>
          refine ⟨j + 1, _, by go_num, by omega, Lib.hid ?_, own3, bel3⟩
          split
          · rename_i e
            rw [ST.out.2.2.1, e, ← HN.out, ST.out.2.2.2]
          · rfl
        case measure => simp [intOf]; omega
      | false =>
        by_cases hj : j + 1 = n
        · go_wp2_with (first
            | (at_builtin; refine append_str rfl _ _ rfl _ out y w.heap.size w _ OW.out Br.out Br.out.size (by have := HL.out; omega) rfl rfl ?_; intro v2 w2 own2 bel2)
            | go_in)
          rw [← ST.out.2.1 (by rw [hj, HN.out])] at own2
          go_roundw
          case rel => exact ⟨j + 1, _, by go_num, by omega, Lib.hid (by rw [if_pos hj]), own2, bel2⟩
          case measure => simp [intOf]; omega
        · go_wp2_with (first
            | (at_builtin; (first
              | (refine append_str rfl _ _ rfl _ out y w.heap.size w _ OW.out Br.out Br.out.size (by have := HL.out; omega) rfl rfl ?_; intro v2 w2 own2 bel2)
              | (refine append_byte rfl _ _ rfl _ (out ++ y.data.toList) 10 _ rfl w.heap.size w _ own2.out bel2.out bel2.out.size (by have := HL.out; rw [List.length_append, ← size_len]; omega) rfl rfl ?_; intro v3 w3 own3 bel3)))
            | go_in)
          rw [← ST.out.1] at own3
          go_roundw
          case rel => exact ⟨j + 1, _, by go_num, by omega, Lib.hid (by rw [if_neg hj]), own3, bel3⟩
          case measure => simp [intOf]; omega
    · obtain rfl : j = n := by omega
      have F : Hid (out = joinL L e0) := Lib.hid (by rw [OE.out, if_pos rfl])
      have CV := own_string OW.out
      go_wp2_with fail
      go_ret
      exact ⟨by rw [← F.out]; rfl, Br.out⟩
set_option maxHeartbeats 1000000 in
theorem law_makes (v : Value) (L : List ByteArray) (e0 : Bool) (m : Int) (w : World) (hm : w.cell? ⟨0, 0, none⟩ = some (.int .i64 m)) (hS : Strs w v L) (hs : fullB L ≤ 1048576) :
    Calls Tryd.prog 3 #[v, .bool e0] w fun e w' => e = .returned (.bool true) ∧ Below w.heap.size w w' := by
  have H := Lib.hid hm; clear hm
  have S := Lib.hid hS; clear hS
  have F := Lib.hid hs; clear hs
  go_enter Tryd.func3, Tryd.ntmps3
  go_wp2_with (first
    | (go_at_call 11; refine (join_any v L e0 _ _ S.out F.out rfl).mono ?_; rintro e w1 ⟨rfl, hb1⟩)
    | (go_at_call 12; refine (rjoin_any v L e0 _ (S.out.below hb1) F.out).mono ?_; rintro e w2 ⟨rfl, hb2⟩)
    | (go_at_call 13; refine (awake_any m _ (max_below (max_below H.out hb1) hb2)).mono ?_; rintro e w3 ⟨rfl, hb3⟩))
  go_ret
  exact ⟨rfl, hb1.trans ((hb2.trans (hb3.mono hb2.size)).mono hb1.size)⟩
end Go.Proofs.YtnbellffbbaamaaDoor
