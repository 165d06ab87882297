/- walks: the law on Words -/
import Derived.Test.YtnbellffbbaamaaDoorWb
import Derived.Test.YtnbellffbbaamaaDoorJb
import Derived.Laws.AppendOwnNone
namespace Go.Proofs.YtnbellffbbaamaaDoor
open Go.RowKit
open Tx
/-- strings with a space behind each -/
def spcat (L : List ByteArray) : List UInt8 := L.flatMap (fun x => x.data.toList ++ [32])
theorem spcat_snoc (L : List ByteArray) (j : Nat) (h : j < L.length) : spcat (L.take (j + 1)) = (spcat (L.take j) ++ L[j].data.toList) ++ [32] := by
  unfold spcat; rw [List.take_succ_eq_append_getElem h, List.flatMap_append]
  simp only [List.flatMap_cons, List.flatMap_nil, List.append_nil, List.append_assoc]
theorem spcat_len (L : List ByteArray) : (spcat L).length = fullB L := by
  induction L with
  | nil => rfl
  | cons x r ih =>
    have : spcat (x :: r) = (x.data.toList ++ [32]) ++ spcat r := by simp [spcat]
    rw [this, List.length_append, ih, List.length_append, ← size_len]
    simp [fullB]
theorem spcat_wrds {L : List ByteArray} {l : List UInt8} (h : L.map (·.data.toList) = wrds l) : wrds (spcat L) = wrds l := by
  have e : spcat L = (wrds l).flatMap (fun x => x ++ [32]) := by rw [← h]; unfold spcat; rw [List.flatMap_map]
  rw [e, wrds_wrds]
theorem words_fullB {L : List ByteArray} {s : ByteArray} (h : L.map (·.data.toList) = wrds s.data.toList) : fullB L ≤ s.size + 1 := by
  rw [fullB_full, h]
  have := wgo_size s.data.toList []
  rw [← size_len] at this
  simp only [List.length_nil] at this
  unfold full wrds; omega
theorem append_list {ops : Array Oper} {rest : List Oper} {o : Oper} {a : Act} {Q : Exit → Act → World → Prop} (hgd : o.guard = none) (s x : Operand)
    (ho : o.op = .call { callee := .builtin .append, args := #[s, x], argTypes := #[22, 22] }) (v v2 : Value) (L L2 : List ByteArray) (B B2 : Nat) (w wr : World)
    (own : OwnS wr B v L) (own2 : OwnS wr B2 v2 L2) (bel : Below B w wr) (hB : B ≤ wr.heap.size) (len : L.length + L2.length ≤ 2097152) (hs : a.eval s = v) (hx : a.eval x = v2)
    (h : ∀ v' w', Hid (OwnS w' B v' (L ++ L2)) → Hid (Below B w w') → wpList Tryd.prog ops Q rest (a.put o.dst v') w') : wpList Tryd.prog ops Q (o :: rest) a wr := by
  obtain ⟨i0, hi, hz0, hz1, hz2⟩ := info_parts infoS
  rcases own2.2 with ⟨rfl, h0⟩ | ⟨g, cap, cur, rfl, hb, hg, hn, hc, hsz, ht⟩
  · obtain rfl := List.eq_nil_of_length_eq_zero h0
    refine wpList_append_own_none hgd s x 22 ho B 9 i0 1 Tryd.underlying22 hi v L.length (L.map Value.string) hs own hx ?_
    exact h v wr (Lib.hid (by rw [List.append_nil]; exact own)) (Lib.hid bel)
  · refine wpList_append_own _ hgd s x 22 ho B 9 i0 (.string ⟨#[]⟩) 1 16 Tryd.underlying22 hi hz0 hz1 hz2 rfl (by decide) v L.length (L.map Value.string) hs own ⟨g, 0, none⟩ L2.length cap (L2.map Value.string) hx (by simp) (fun j u hj => own2.cells (g := g) rfl j u hj) ?_ ?_ ?_ hB ?_
    · intro y hy
      obtain ⟨z, _, rfl⟩ := List.mem_map.1 hy; rfl
    · unfold maxLen; omega
    · omega
    · intro v' w' h1 h2 _
      refine h v' w' (Lib.hid ?_) (Lib.hid (bel.grown h2 hB (fun k hk => (own.lt k hk).1)))
      rw [← List.map_append] at h1
      show w'.ownsRow B 9 1 _ (L ++ L2).length ((L ++ L2).map Value.string)
      rw [List.length_append]; exact h1
theorem words_mid (s t : ByteArray) (c : UInt8) (w : World) (hc : isSp c = true) (hs : s.size + t.size ≤ 1048574) :
    Calls Tryd.prog 23 #[.string (s ++ ⟨#[c]⟩ ++ t)] w fun e w' => ∃ v L, e = .returned v ∧ L.map (·.data.toList) = wrds s.data.toList ++ wrds t.data.toList ∧ OwnS w' w.heap.size v L ∧ Below w.heap.size w w' := by
  have hz : (s ++ ⟨#[c]⟩ ++ t).size ≤ 1048576 := by
    rw [ByteArray.size_append, ByteArray.size_append]
    show s.size + 1 + t.size ≤ 1048576; omega
  have h := words_any (s ++ ⟨#[c]⟩ ++ t) w hz
  have e : (s ++ ⟨#[c]⟩ ++ t).data.toList = s.data.toList ++ c :: t.data.toList := by simp
  have e2 : wrds (s.data.toList ++ c :: t.data.toList) = wrds s.data.toList ++ wrds t.data.toList := wgo_app c hc _ [] _
  rw [e, e2] at h
  exact h
theorem words_sp (l : List UInt8) (L1 : List ByteArray) (w : World) (hl : l.length ≤ 1048576) (h : wrds l = L1.map (·.data.toList)) :
    Calls Tryd.prog 23 #[.string ⟨l.toArray⟩] w fun e w' => ∃ v L, e = .returned v ∧ L.map (·.data.toList) = L1.map (·.data.toList) ∧ OwnS w' w.heap.size v L ∧ Below w.heap.size w w' := by
  have := words_any ⟨l.toArray⟩ w hl
  rw [← h]
  exact this
theorem own_below {w w' : World} {B : Nat} {v : Value} {L : List ByteArray} (h : OwnS w B v L) (hb : Below w.heap.size w w') : OwnS w' B v L := owns_below h hb
set_option maxHeartbeats 2000000 in
theorem law_words (s t : ByteArray) (by_ : Int) (m : Int) (w : World) (hm : w.cell? ⟨0, 0, none⟩ = some (.int .i64 m)) (hs : s.size + t.size ≤ 1048574) :
    Calls Tryd.prog 9 #[.string s, .string t, .int .i64 by_] w fun e w' => e = .returned (.bool true) ∧ Below w.heap.size w w' := by
  have H := Lib.hid hm; clear hm
  have S := Lib.hid hs
  go_enter Tryd.func9, Tryd.ntmps9
  go_wp2_with (first
    | (go_at_call 23; (first
        | (with_reducible refine (words_any s _ (by have := S.out; omega)).mono ?_; rintro e w1 ⟨v1, L1, rfl, hl1, hs1, hb1⟩)
        | (with_reducible refine (words_any t _ (by have := S.out; omega)).mono ?_; rintro e w2 ⟨v2, L2, rfl, hl2, hs2, hb2⟩))))
  obtain ⟨a1, c1, rfl, _⟩ := hs1.strs
  have HL1 := Lib.hid hl1
  have HL2 := Lib.hid hl2
  have F1 : Hid (fullB L1 ≤ s.size + 1) := Lib.hid (words_fullB hl1)
  have F2 : Hid (fullB L2 ≤ t.size + 1) := Lib.hid (words_fullB hl2)
  have O1 := Lib.hid (own_below hs1 hb2)
  have O2 := Lib.hid hs2
  have B2 := Lib.hid (hb1.trans (hb2.mono hb1.size))
  have N1 : L1.length ≤ 1048576 := by have := fullB_ge L1; have := F1.out; omega
  obtain ⟨n, hn⟩ : ∃ n, L1.length = n := ⟨_, rfl⟩
  have HN := Lib.hid hn
  rw [hn] at O1 N1 ⊢
  clear hl1 hl2 hs1 hs2 hb1 hb2 hn
  go_loopw [9, 10] (fun b i wr => ∃ (j : Nat) (out : List UInt8), i = .int .i64 j ∧ j ≤ n ∧ Hid (out = spcat (L1.take j)) ∧ Hid (Own wr w2.heap.size b out) ∧ Hid (Below w2.heap.size w2 wr)) (fun _ i _ => n - (intOf i).toNat)
  case atStart => exact ⟨0, [], rfl, by omega, Lib.hid (by simp [spcat]), Lib.hid ⟨by simp [Lib.byteCells], .inl ⟨rfl, rfl⟩⟩, Lib.hid (Below.refl _ _)⟩
  case round =>
    obtain ⟨j, out, rfl, js, OE, OW, Br⟩ := hrel
    by_cases hlt : j < n
    · have x1 : j < L1.length := by have := HN.out; omega
      obtain ⟨g, o, cap', e, _, _, hg, hc⟩ := (O1.out.strs.below Br.out).cons (by intro e; rw [e] at x1; simp at x1)
      rw [HN.out] at e
      simp only [Value.slice.injEq] at e
      obtain ⟨rfl, _, rfl⟩ := e
      have k1 := hc j _ (List.getElem?_eq_getElem x1)
      have SN := spcat_snoc L1 j x1
      have LN : out.length + L1[j].size + 1 ≤ 1048576 := by
        have h1 := fullB_snoc L1 j x1
        have h2 := fullB_le L1 (j + 1) L1.length (by omega)
        rw [List.take_length] at h2
        rw [OE.out, spcat_len]; have := F1.out; omega
      obtain ⟨y, hy⟩ : ∃ y, L1[j] = y := ⟨_, rfl⟩
      rw [hy] at k1 LN SN
      rw [← OE.out] at SN
      have ST := Lib.hid SN
      have HL := Lib.hid LN
      clear hc SN hy x1 LN hg
      go_wp2_with (first
        | (at_builtin; (first
          | (refine append_str rfl _ _ rfl _ out y w2.heap.size w2 _ OW.out Br.out Br.out.size (by have := HL.out; omega) rfl rfl ?_; intro v3 w3 own3 bel3)
          | (refine append_byte rfl _ _ rfl _ (out ++ y.data.toList) 32 _ rfl w2.heap.size w2 _ own3.out bel3.out bel3.out.size (by have := HL.out; rw [List.length_append, ← size_len]; omega) rfl rfl ?_; intro v4 w4 own4 bel4)))
        | go_in)
      rw [← ST.out] at own4
      go_roundw
      case rel => exact ⟨j + 1, _, by go_num, by omega, Lib.hid rfl, own4, bel4⟩
      case measure => simp [intOf]; omega
    · obtain rfl : j = n := by omega
      have OF : out = spcat L1 := by rw [OE.out, List.take_of_length_le (by have := HN.out; omega)]
      subst OF
      have CV := own_string OW.out
      have SPW : Hid (wrds (spcat L1) = L1.map (·.data.toList)) := Lib.hid (by rw [spcat_wrds HL1.out, HL1.out])
      have SPL : Hid ((spcat L1).length ≤ 1048576) := Lib.hid (by rw [spcat_len]; have := F1.out; omega)
      have O1r := Lib.hid (own_below O1.out Br.out)
      have O2r := Lib.hid (own_below O2.out Br.out)
      have Bw := Lib.hid (B2.out.trans (Br.out.mono B2.out.size))
      have LNS : Hid (L1.length + L2.length ≤ 2097152) := Lib.hid (by have := fullB_ge L1; have := fullB_ge L2; have := F1.out; have := F2.out; omega)
      have CT : (by_ = 1) ∨ (by_ = 2) ∨ ((by_ == 1) = false ∧ (by_ == 2) = false) := by
        by_cases h1 : by_ = 1
        · exact .inl h1
        · by_cases h2 : by_ = 2
          · exact .inr (.inl h2)
          · exact .inr (.inr ⟨by rw [beq_eq_false_iff_ne]; exact h1, by rw [beq_eq_false_iff_ne]; exact h2⟩)
      clear OE OW hlt js
      rcases CT with rfl | rfl | ⟨t1, t2⟩
      all_goals go_wp2_with (first
        | (go_at_call 23; (first
            | (with_reducible refine (words_sp (spcat L1) L1 _ SPL.out SPW.out).mono ?_; rintro e w5 ⟨v5, L5, rfl, hl5, hs5, hb5⟩)
            | (with_reducible refine (words_mid s t 9 _ rfl S.out).mono ?_; rintro e w8 ⟨v8, L8, rfl, hl8, hs8, hb8⟩)
            | (with_reducible refine (words_mid s t 10 _ rfl S.out).mono ?_; rintro e w8 ⟨v8, L8, rfl, hl8, hs8, hb8⟩)
            | (with_reducible refine (words_mid s t 32 _ rfl S.out).mono ?_; rintro e w8 ⟨v8, L8, rfl, hl8, hs8, hb8⟩)))
        | (go_at_call 16; (first
            | (with_reducible refine (same_yes v5 _ L5 L1 _ hs5.strs (O1r.out.strs.below hb5) hl5).mono ?_; rintro e w6 ⟨rfl, hb6⟩)
            | (with_reducible refine (same_yes v8 v7 L8 (L1 ++ L2) _ hs8.strs (hs7.out.strs.below hb8) (by rw [hl8, List.map_append, HL1.out, HL2.out])).mono ?_; rintro e w9 ⟨rfl, hb9⟩)))
        | (go_at_call 13; refine (awake_any m _ (max_below (max_below H.out (hb7.out.trans (hb8.mono hb7.out.size))) (hb9))).mono ?_; rintro e w10 ⟨rfl, hb10⟩)
        | (at_builtin; refine append_list rfl _ _ rfl _ _ L1 L2 w.heap.size w1.heap.size w _ (own_below (own_below O1r.out hb5) hb6) (own_below (own_below O2r.out hb5) hb6) ((Bw.out.trans (hb5.mono Bw.out.size)).trans (hb6.mono (Bw.out.trans (hb5.mono Bw.out.size)).size)) ((Bw.out.trans (hb5.mono Bw.out.size)).trans (hb6.mono (Bw.out.trans (hb5.mono Bw.out.size)).size)).size LNS.out rfl rfl ?_; intro v7 w7 hs7 hb7)
        | go_in)
      all_goals go_ret
      all_goals exact ⟨rfl, hb7.out.trans ((hb8.trans ((hb9.trans (hb10.mono hb9.size)).mono hb8.size)).mono hb7.out.size)⟩
end Go.Proofs.YtnbellffbbaamaaDoor
