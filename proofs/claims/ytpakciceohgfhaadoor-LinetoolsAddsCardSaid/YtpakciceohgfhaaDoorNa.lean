/- walks: lines, Head, Tail, From of the program -/
import Derived.Test.YtpakciceohgfhaaDoorWb
import Derived.Test.YtpakciceohgfhaaDoorNplain
import Derived.Test.YtpakciceohgfhaaDoorShelf
namespace Go.Proofs.YtpakciceohgfhaaDoor
open Go.RowKit
open Tx
theorem infoS' : (Tryd.prog.info? 9).map (fun i => (i.zero, i.size, i.bytes)) = some (some (.string ByteArray.empty), 1, 16) := by kernel_rfl
theorem gs_is (s : ByteArray) (n : Nat) (Ps : List ByteArray) (m : Int) (w : World) (hm : w.cell? ⟨0, 0, none⟩ = some (.int .i64 m)) (hs : s.size ≤ 300) (hn : Lib.countB s ⟨#[10]⟩ = n) (hP : Lib.splitB ⟨#[10]⟩ 1 (Lib.countB s ⟨#[10]⟩) s = Ps) :
    Calls Tryd.prog 40 #[.string s, .string ⟨#[10]⟩, .int .i64 1, .int .i64 (-1)] w fun e w' => e = .returned (.slice (some ⟨w.heap.size, 0, none⟩) (n + 1) (n + 1)) ∧ w' = w.alloc (.cells (Ps.map Value.string).toArray 9) := by
  have hb : Lib.countB s ⟨#[10]⟩ ≤ s.size := Lib.countB_le ⟨#[10]⟩ (by show 1 ≤ 1; omega) _ s (Nat.le_refl _)
  have h := Tryd.strings_genSplit s ⟨#[10]⟩ 1 (-1) (n + 1) m w (by omega) hm (by show 1 ≤ 1; omega) (by show 1 ≤ 1; omega) (by decide) (by decide) (by rw [if_pos (by decide), hn]; rw [hn] at hb; omega)
  have hl : Ps.length = n + 1 := by rw [← hP, ← hn]; exact Lib.splitB_all ⟨#[10]⟩ (by show 1 ≤ 1; omega) 1 _ s rfl
  rw [Nat.add_sub_cancel, ← hn, hP, hn, hl, ← hl, Lib.cellsOf_full, hl] at h
  exact h
theorem sa_is (s : ByteArray) (n : Nat) (Ps : List ByteArray) (m : Int) (w : World) (hm : w.cell? ⟨0, 0, none⟩ = some (.int .i64 m)) (hs : s.size ≤ 300) (hn : Lib.countB s ⟨#[10]⟩ = n) (hP : Lib.splitB ⟨#[10]⟩ 1 (Lib.countB s ⟨#[10]⟩) s = Ps) :
    Calls Tryd.prog 33 #[.string s, .string ⟨#[10]⟩] w fun e w' => e = .returned (.slice (some ⟨w.heap.size, 0, none⟩) (n + 1) (n + 1)) ∧ w' = w.alloc (.cells (Ps.map Value.string).toArray 9) := by
  have G := Lib.hid (gs_is s n Ps m w hm hs hn hP)
  clear hm hs hn hP
  go_enter Tryd.func33, Tryd.ntmps33
  go_wp2_with (go_at_call 40; refine G.out.mono ?_; rintro e w' ⟨rfl, rfl⟩)
  go_ret
  exact ⟨rfl, rfl⟩
/-- a list of lines that a call has made: nothing, or a row of its own -/
def Ln (w : World) (v : Value) (L : List ByteArray) : Prop :=
  (L = [] ∧ v = .slice none 0 0) ∨ ∃ g cap, v = .slice (some ⟨g, 0, none⟩) L.length cap ∧ L.length ≤ cap ∧ cap ≤ 301 ∧ L ≠ [] ∧ g < w.heap.size ∧ (∀ (j : Nat) x, L[j]? = some x → w.cell? ⟨g, j, none⟩ = some (.string x)) ∧
    ∃ cs : Array Value, w.heap[g]? = some (.cells cs 9 (0, 0)) ∧ ∀ (j : Nat) x, L[j]? = some x → cs[j]? = some (.string x)
theorem lnk_any (s : ByteArray) (m : Int) (w : World) (hm : w.cell? ⟨0, 0, none⟩ = some (.int .i64 m)) (hs : s.size ≤ 300) :
    Calls Tryd.prog 20 #[.string s] w fun e w' => ∃ v L, e = .returned v ∧ L.map (·.data.toList) = lnk s.data.toList ∧ Ln w' v L ∧ Below w.heap.size w w' := by
  by_cases h0 : s.data.toList = []
  · obtain rfl : s = ⟨#[]⟩ := str_ext h0
    go_enter Tryd.func20, Tryd.ntmps20
    go_wp2_with fail
    go_ret
    exact ⟨_, rfl, [], rfl, .inl ⟨rfl, rfl⟩, Below.refl _ _⟩
  · have ln := Lib.splitB_all ⟨#[10]⟩ (by show 1 ≤ 1; omega) 1 _ s rfl
    have sp : (Lib.splitB ⟨#[10]⟩ 1 (Lib.countB s ⟨#[10]⟩) s).map (·.data.toList) = spa s.data.toList := by
      rw [Lib.splitB_data]; rfl
    obtain ⟨Ps, hP⟩ : ∃ Ps, Lib.splitB ⟨#[10]⟩ 1 (Lib.countB s ⟨#[10]⟩) s = Ps := ⟨_, rfl⟩
    obtain ⟨n, hn⟩ : ∃ n, Lib.countB s ⟨#[10]⟩ = n := ⟨_, rfl⟩
    have SC := fun m w hm => sa_is s n Ps m w hm hs hn hP
    rw [hP] at sp ln
    rw [hn] at ln
    have hb : n ≤ s.size := by rw [← hn]; exact Lib.countB_le ⟨#[10]⟩ (by show 1 ≤ 1; omega) _ s (Nat.le_refl _)
    obtain ⟨out, last, hl⟩ : ∃ out last, Ps = out ++ [last] := ⟨Ps.dropLast, Ps.getLast (by intro e; rw [e] at ln; simp at ln), (List.dropLast_concat_getLast _).symm⟩
    have ho : out.length = n := by rw [hl, List.length_append] at ln; simpa using ln
    have C0 : (w.alloc (.cells (Ps.map Value.string).toArray 9)).heap[w.heap.size]? = some (.cells (Ps.map Value.string).toArray 9 (0, 0)) := heap_alloc_new w _
    have K : (w.alloc (.cells (Ps.map Value.string).toArray 9)).cell? ⟨w.heap.size, n, none⟩ = some (.string last) := by
      simp only [World.cell?, C0]
      rw [hl, ← ho]; simp
    obtain ⟨so, cur, se⟩ := spl_ex s.data.toList
    obtain ⟨q1, q2, q3⟩ := spa_lnk _ so cur se
    have hcur : last.data.toList = cur := by
      rw [← sp, hl] at q3; simpa using q3
    have tne : (s.toList == []) = false := by rw [Lib.toList_data, beq_eq_false_iff_ne]; exact h0
    have H := Lib.hid hm
    have B0 := (Below.refl w.heap.size w).alloc (Nat.le_refl _) (.cells (Ps.map Value.string).toArray 9)
    have CE : ∀ (j : Nat) x, Ps[j]? = some x → (w.alloc (.cells (Ps.map Value.string).toArray 9)).cell? ⟨w.heap.size, j, none⟩ = some (.string x) := fun j x hj => by
      simp only [World.cell?, C0]
      simp [hj]
    have GS : w.heap.size < (w.alloc (.cells (Ps.map Value.string).toArray 9)).heap.size := (Array.getElem?_eq_some_iff.1 C0).1
    have ONE : cur = [] → out ≠ [] := by
      intro hc ho0
      have e1 := lnk_flat s.data.toList
      rw [q1 hc, ← sp, hl, ho0] at e1
      exact h0 (by rw [← e1]; rfl)
    have SZ : n ≤ 300 := by omega
    have F := Lib.hid (And.intro q1 (And.intro q2 (And.intro sp (And.intro hl (And.intro ho (And.intro ln (And.intro hcur (And.intro CE (And.intro GS (And.intro ONE C0))))))))))
    have BB := Lib.hid B0
    clear h0 sp ln hn hP hb q1 q2 q3 hm B0 C0 hl ho hs CE GS ONE se
    by_cases hz : last.data.toList = []
    · have tz : (last.toList == []) = true := by rw [Lib.toList_data, hz]; rfl
      have HZ := Lib.hid hz; clear hz hcur
      go_enter Tryd.func20, Tryd.ntmps20
      go_wp2_with (go_at_call 33; refine (SC m _ H.out).mono ?_; rintro e w' ⟨rfl, rfl⟩)
      go_ret
      obtain ⟨q1, q2, sp, hl, ho, ln, hcur, CE, GS, ONE, C0⟩ := F.out
      have hc : cur = [] := by rw [← hcur, HZ.out]
      refine ⟨_, out, rfl, ?_, .inr ⟨w.heap.size, n + 1, by rw [ho]; rfl, by omega, by omega, ONE hc, GS, fun j x hj => CE j x ?_, _, C0, fun j x hj => ?_⟩, BB.out⟩
      · rw [q1 hc, ← sp, hl]; simp
      · have := (List.getElem?_eq_some_iff.1 hj).1
        rw [hl, List.getElem?_append_left this]; exact hj
      · have := (List.getElem?_eq_some_iff.1 hj).1
        have h2 : Ps[j]? = some x := by rw [hl, List.getElem?_append_left this]; exact hj
        simp [h2]
    · have tz : (last.toList == []) = false := by rw [Lib.toList_data, beq_eq_false_iff_ne]; exact hz
      have HZ := Lib.hid hz; clear hz hcur
      go_enter Tryd.func20, Tryd.ntmps20
      go_wp2_with (go_at_call 33; refine (SC m _ H.out).mono ?_; rintro e w' ⟨rfl, rfl⟩)
      go_ret
      obtain ⟨q1, q2, sp, hl, ho, ln, hcur, CE, GS, ONE, C0⟩ := F.out
      have hc : cur ≠ [] := by rw [← hcur]; exact HZ.out
      exact ⟨_, Ps, rfl, by rw [q2 hc, sp], .inr ⟨w.heap.size, n + 1, by rw [ln]; rfl, by omega, by omega, by rw [hl]; simp, GS, CE, _, C0, fun j x hj => by simp [hj]⟩, BB.out⟩
theorem jn_is (g o c n : Nat) (xs : List ByteArray) (t : ByteArray) (w : World) (hn : n = xs.length) (ht : t = ⟨((xs.map (·.data.toList)).flatten).toArray⟩) (hg : g < w.heap.size) (h1 : n ≤ c) (hc : ∀ (j : Nat) x, xs[j]? = some x → w.cell? ⟨g, o + j, none⟩ = some (.string x)) (hs : fullB xs ≤ 1048576) :
    Calls Tryd.prog 21 #[.slice (some ⟨g, o, none⟩) n c, .string ⟨#[]⟩] w fun e w' => e = .returned (.string t) ∧ Below w.heap.size w w' := by
  subst hn
  have b := fullB_ge xs
  have e : Lib.join (xs.map (·.data.toList)) [] = (xs.map (·.data.toList)).flatten := join_flat _
  have hl : ((xs.map (·.data.toList)).flatten).length ≤ fullB xs := by
    clear hc e ht b hs h1
    induction xs with
    | nil => simp
    | cons x r ih =>
      rw [List.map_cons, List.flatten_cons, List.length_append, ← size_len]
      simp only [fullB, List.map_cons, List.sum_cons] at ih ⊢; omega
  rw [ht]
  have h := Tryd.strings_Join g o c xs ⟨#[]⟩ w hc hg (by omega) h1 (by show (Lib.join (xs.map (·.data.toList)) []).length ≤ 140737488355328; rw [e]; omega)
  have e2 : Lib.join (xs.map (·.data.toList)) (ByteArray.mk #[]).data.toList = (xs.map (·.data.toList)).flatten := e
  rw [e2] at h
  exact h
theorem full_ge (out : List (List UInt8)) : out.length ≤ full out := by
  induction out with
  | nil => simp
  | cons x r ih => rw [full_cons, List.length_cons]; omega
/-- the lines of a text of at most 300 bytes take few bytes -/
theorem lnk_full {L : List ByteArray} {l : List UInt8} (h : L.map (·.data.toList) = lnk l) (hl : l.length ≤ 300) : fullB L ≤ 601 ∧ L.length ≤ 300 := by
  have e : ∀ M : List ByteArray, fullB M = ((M.map (·.data.toList)).flatten).length + M.length := by
    intro M
    induction M with
    | nil => rfl
    | cons x r ih =>
      rw [List.map_cons, List.flatten_cons, List.length_append, ← size_len]
      simp only [fullB, List.map_cons, List.sum_cons, List.length_cons] at ih ⊢; omega
  have h1 := e L
  rw [h, lnk_flat] at h1
  have h2 := lnk_len l
  rw [← h, List.length_map] at h2
  obtain ⟨out, cur, es⟩ := spl_ex l
  obtain ⟨a1, a2, _⟩ := spl_size l out cur es
  have h3 := (lin_of es).1
  have h4 := full_ge out
  rw [h3] at h2
  split at h2
  · omega
  · rename_i hz
    have : 0 < cur.length := List.length_pos_iff.2 hz
    rw [List.length_append] at h2; simp at h2; omega
theorem fullB_drop (L : List ByteArray) : ∀ k, fullB (L.drop k) ≤ fullB L := by
  induction L with
  | nil => intro k; simp
  | cons x r ih =>
    intro k
    cases k with
    | zero => simp
    | succ k => rw [List.drop_succ_cons]; have := ih k; simp [fullB] at *; omega
end Go.Proofs.YtpakciceohgfhaaDoor
