/-
The least error of a list; the error of lists of so many numbers (tableauref07.Least, tableaulaw17.lists).
-/
import Derived.Test.YtajahomfmcbmlaaRef3
import Derived.Test.YtajahomfmcbmlaaStack3
namespace Go.Proofs.Ytajahomfmcbmlaa.T
open Go.RowKit Go.Proofs.YtajahomfmcbmlaaW.PrintWords Go.Proofs.YtajahomfmcbmlaaW.PrintLast Go.Proofs.YtajahomfmcbmlaaW.PrintMore
set_option linter.unusedVariables false

/-- A list of whole numbers that is read. -/
abbrev Ri (w : World) (A : Option Addr) (l : List Int) : Prop := Kd.C (Kd.int .i64) w A l.length l
theorem Ri.below {w w1 : World} {A : Option Addr} {l : List Int} (h : Ri w A l) (hb : Below w.heap.size w w1) : Ri w1 A l := Kd.C_below h hb
theorem Ri.at {w : World} {A : Option Addr} {l : List Int} (h : Ri w A l) (i : Nat) (hi : i < l.length) : ∃ ad, A = some ad ∧ w.cell? (ad.add i) = some (.int .i64 (l.getD i 0)) := by
  obtain ⟨ad, e, hc⟩ := Kd.at_int h (i : Int) (by omega) (by omega)
  exact ⟨ad, e, by simpa [rd] using hc⟩
theorem Ri.blk {w : World} {g : Nat} {cs : Array Value} {t : TypeId} {xs : List Int} (hb : w.heap[g]? = some (.cells cs t (0, 0))) (hm : xs.length ≤ 9223372036854775807)
    (h : ∀ (j : Nat) (p : Int), xs[j]? = some p → cs[j]? = some (.int .i64 p)) : Ri w (some ⟨g, 0, none⟩) xs := by
  refine ⟨rfl, hm, fun _ => ⟨_, rfl, fun j p hj => ⟨[.int .i64 p], rfl, rfl, fun i u hu => ?_⟩⟩⟩
  obtain ⟨rfl, rfl⟩ : i = 0 ∧ u = .int .i64 p := by
    cases i with
    | zero => simpa using hu.symm
    | succ i => simp at hu
  have : (⟨g, 0, none⟩ : Addr).add (j * 1 + 0) = ⟨g, j, none⟩ := by unfold Addr.add; split <;> simp_all
  show w.cell? ((⟨g, 0, none⟩ : Addr).add (j * 1 + 0)) = some (.int .i64 p)
  rw [this, blk_cell hb, h j p hj]
theorem Ri.two {w : World} {g : Nat} {x y : Int} {t : TypeId} (hb : w.heap[g]? = some (.cells #[.int .i64 x, .int .i64 y] t (0, 0))) : Ri w (some ⟨g, 0, none⟩) [x, y] :=
  Ri.blk hb (by simp) fun j p hp => by
    match j, hp with
    | 0, hp => simp at hp; subst hp; rfl
    | 1, hp => simp at hp; subst hp; rfl
    | j + 2, hp => simp at hp
theorem Ri.three {w : World} {g : Nat} {x y z : Int} {t : TypeId} (hb : w.heap[g]? = some (.cells #[.int .i64 x, .int .i64 y, .int .i64 z] t (0, 0))) : Ri w (some ⟨g, 0, none⟩) [x, y, z] :=
  Ri.blk hb (by simp) fun j p hp => by
    match j, hp with
    | 0, hp => simp at hp; subst hp; rfl
    | 1, hp => simp at hp; subst hp; rfl
    | 2, hp => simp at hp; subst hp; rfl
    | j + 3, hp => simp at hp

/-- Of errors the lesser that is one. -/
def less2 (e f : Int) : Int := if f ≠ 0 ∧ (e = 0 ∨ f < e) then f else e
def leastL (l : List Int) : Int := l.foldl less2 0
theorem less2_zero (e : Int) : less2 0 e = e := by unfold less2; split <;> omega
theorem leastL_two (e f : Int) : leastL [e, f] = less2 e f := by simp [leastL, less2_zero]
theorem leastL_three (e f g : Int) : leastL [e, f, g] = less2 (less2 e f) g := by simp [leastL, less2_zero]

set_option maxRecDepth 10000 in
set_option maxHeartbeats 1000000 in
theorem ref7_Least (A : Option Addr) (n c : Nat) (l : List Int) (w : World) (hn : n = l.length) (hA : Ri w A l) :
    Calls Try.prog 18 #[.slice A n c] w fun e w' => e = .returned (.int .i64 (leastL l)) ∧ w = w' := by
  have HN := Lib.hid hn
  have hmx := hA.2.1
  rw [← hn] at hmx
  clear hn
  go_enter Try.func18, Try.ntmps18
  go_wp2_with fail
  go_loopg [3, 8] (n + 1) (fun k u t wr => ∃ (i : Nat) (e : Int), i ≤ n ∧ n < i + k ∧ t = .int .i64 i ∧ u = .int .i64 e ∧ Hid (e = leastL (l.take i)) ∧ w = wr)
  case atStart => exact ⟨0, 0, Nat.zero_le _, by omega, rfl, rfl, rfl, rfl⟩
  case round =>
    obtain ⟨i, e, hi, hg, rfl, rfl, he, rfl⟩ := hrel
    by_cases hlt : i < n
    · obtain ⟨ad, rfl, hc⟩ := hA.at i (by have := HN.out; omega)
      obtain ⟨f, hf⟩ : ∃ x, l.getD i 0 = x := ⟨_, rfl⟩
      rw [hf] at hc
      have HS : Hid (leastL (l.take (i + 1)) = less2 e f) := by
        rw [he.out, List.take_succ_eq_append_getElem (by have := HN.out; omega)]
        have : l[i]'(by have := HN.out; omega) = f := by rw [← hf, List.getD_eq_getElem?_getD, List.getElem?_eq_getElem (by have := HN.out; omega)]; rfl
        rw [this]
        simp [leastL, Hid]
      clear hf
      by_cases h1 : f = 0
      · subst h1
        go_wp2_with fail
        go_roundg (n - i)
        case measure => omega
        case rel => exact ⟨i + 1, e, by omega, by omega, by go_num, rfl, by rw [Hid, HS.out]; simp [less2], rfl⟩
      · have g1 : (f != 0) = true := by simpa using h1
        have H1 := Lib.hid h1
        clear h1
        by_cases h2 : e = 0
        · have g2 : (e == 0) = true := by simpa using h2
          have H2 := Lib.hid h2
          clear h2
          go_wp2_with fail
          go_roundg (n - i)
          case measure => omega
          case rel => exact ⟨i + 1, f, by omega, by omega, by go_num, rfl, by rw [Hid, HS.out, less2, if_pos ⟨H1.out, .inl H2.out⟩], rfl⟩
        · have g2 : (e == 0) = false := by simpa using h2
          have H2 := Lib.hid h2
          clear h2
          by_cases h3 : f < e
          · go_wp2_with fail
            go_roundg (n - i)
            case measure => omega
            case rel => exact ⟨i + 1, f, by omega, by omega, by go_num, rfl, by rw [Hid, HS.out, less2, if_pos ⟨H1.out, .inr h3⟩], rfl⟩
          · go_wp2_with fail
            go_roundg (n - i)
            case measure => omega
            case rel => exact ⟨i + 1, e, by omega, by omega, by go_num, rfl, by rw [Hid, HS.out, less2, if_neg (by have := H2.out; omega)], rfl⟩
    · have HI := Lib.hid (show i = n by omega)
      go_wp2_with fail
      go_ret
      refine ⟨ret_int ?_, rfl⟩
      rw [he.out, List.take_of_length_le (by have := HN.out; have := HI.out; omega)]

/-- The error of lists of so many numbers. -/
def listsE (x : Int) (ls : List (List Rw)) : Int := if formsL ls then (if anyLong ls x then 7 else 0) else 3
theorem fitsE_lists (ls ms : List (List Rw)) (x y : Int) : leastL [listsE x ls, listsE y ms] = fitsE ls ms x y := by
  unfold listsE fitsE leastL
  cases formsL ls <;> cases formsL ms <;> cases anyLong ls x <;> cases anyLong ms y <;> decide
theorem listsE_nil (x : Int) : listsE x [] = 0 := rfl
theorem listsE_snoc (x : Int) (ls : List (List Rw)) (l : List Rw) : listsE x (ls ++ [l]) = (if (l.length : Int) = x then id else (less2 · 7)) (if l.all formR then listsE x ls else less2 (listsE x ls) 3) := by
  unfold listsE formsL anyLong
  rw [List.all_append, List.any_append]
  simp only [List.all_cons, List.all_nil, List.any_cons, List.any_nil, Bool.and_true, Bool.or_false]
  by_cases h : (l.length : Int) = x
  · rw [if_pos h, show decide ((l.length : Int) ≠ x) = false by simp [h]]
    cases (ls.all fun l => l.all formR) <;> cases (l.all formR) <;> cases (ls.any fun l => decide ((l.length : Int) ≠ x)) <;> decide
  · rw [if_neg h, show decide ((l.length : Int) ≠ x) = true by simp [h]]
    cases (ls.all fun l => l.all formR) <;> cases (l.all formR) <;> cases (ls.any fun l => decide ((l.length : Int) ≠ x)) <;> decide

set_option maxRecDepth 10000 in
set_option maxHeartbeats 2000000 in
theorem law17_lists (x : Int) (A : Option Addr) (n c : Nat) (ls : List (List Rw)) (w : World) (hL : Fit w A n ls) :
    Calls Try.prog 19 #[.int .i64 x, .slice A n c] w fun e w' => e = .returned (.int .i64 (listsE x ls)) ∧ Below w.heap.size w w' := by
  have HL := Lib.hid hL
  have hmx := hL.few
  clear hL
  go_enter Try.func19, Try.ntmps19
  go_wp2_with fail
  go_loopg [5, 10] (n + 1) (fun k u t wr => ∃ (i : Nat) (e : Int), i ≤ n ∧ n < i + k ∧ t = .int .i64 i ∧ u = .int .i64 e ∧ Hid (e = listsE x (ls.take i)) ∧ Below w.heap.size w wr)
  case atStart => exact ⟨0, 0, Nat.zero_le _, by omega, rfl, rfl, rfl, Below.refl _ _⟩
  case round =>
    obtain ⟨i, e, hi, hg, rfl, rfl, he, hb⟩ := hrel
    by_cases hlt : i < n
    · obtain ⟨ad, B, cB, rfl, hc, hB⟩ := (HL.out.reads.below hb) i (by have := HL.out.len; omega)
      obtain ⟨xs, hxs⟩ : ∃ x, ls.getD i [] = x := ⟨_, rfl⟩
      have hil : i < ls.length := by have := HL.out.len; omega
      have hmem : xs ∈ ls := by rw [← hxs, List.getD_eq_getElem?_getD, List.getElem?_eq_getElem hil]; exact List.getElem_mem _
      have HX := Lib.hid (And.intro (HL.out.small xs hmem) (HL.out.short xs hmem))
      rw [hxs] at hc hB
      have HS : Hid (listsE x (ls.take (i + 1)) = (if (xs.length : Int) = x then id else (less2 · 7)) (if xs.all formR then e else less2 e 3)) := by
        rw [List.take_succ_eq_append_getElem hil]
        have : ls[i]'hil = xs := by rw [← hxs, List.getD_eq_getElem?_getD, List.getElem?_eq_getElem hil]; rfl
        rw [this, listsE_snoc, ← he.out]; rfl
      clear hxs hmem hil
      obtain ⟨m, hm⟩ : ∃ m, xs.length = m := ⟨_, rfl⟩
      rw [hm] at hc HS
      have HM := Lib.hid hm
      clear hm
      go_wp2_with fail
      refine (ref3_Forms B m cB xs _ HM.out.symm (by rw [← HM.out]; exact HX.out.2) HX.out.1 hB).mono ?_
      rintro e1 w1 ⟨rfl, hb1⟩
      obtain ⟨b, hbq⟩ : ∃ b, xs.all formR = b := ⟨_, rfl⟩
      rw [hbq] at HS ⊢
      clear hbq
      have hb2 := hb.trans (hb1.mono hb.size)
      have hba : ∀ o, Below w.heap.size w (w1.alloc o) := fun o => hb2.alloc hb2.size _
      by_cases hmx2 : (m : Int) = x
      · have g1 : ((m : Int) != x) = false := by simpa using hmx2
        rw [if_pos hmx2] at HS
        have HM2 := Lib.hid hmx2
        clear hmx2
        cases b
        · go_wp2_with fail
          refine (ref7_Least _ 2 2 [e, 3] _ rfl (Ri.two (blk_new w1 _))).mono ?_
          rintro e2 w2 ⟨rfl, rfl⟩
          go_wp2_with fail
          go_roundg (n - i)
          case measure => omega
          case rel => exact ⟨i + 1, _, by omega, by omega, by go_num, rfl, by rw [Hid, HS.out, leastL_two]; rfl, hba _⟩
        · go_wp2_with fail
          go_roundg (n - i)
          case measure => omega
          case rel => exact ⟨i + 1, _, by omega, by omega, by go_num, rfl, HS.out.symm, hb2⟩
      · have g1 : ((m : Int) != x) = true := by simpa using hmx2
        rw [if_neg hmx2] at HS
        have HM2 := Lib.hid hmx2
        clear hmx2
        cases b
        · go_wp2_with fail
          refine (ref7_Least _ 2 2 [e, 3] _ rfl (Ri.two (blk_new w1 _))).mono ?_
          rintro e2 w2 ⟨rfl, rfl⟩
          go_wp2_with fail
          refine (ref7_Least _ 2 2 [leastL [e, 3], 7] _ rfl (Ri.two (by have := blk_new (w1.alloc (.cells #[.int .i64 e, .int .i64 3] 3)) (.cells #[.int .i64 (leastL [e, 3]), .int .i64 7] 3 (0, 0)); simpa using this))).mono ?_
          rintro e2 w2 ⟨rfl, rfl⟩
          go_wp2_with fail
          go_roundg (n - i)
          case measure => omega
          case rel => exact ⟨i + 1, _, by omega, by omega, by go_num, rfl, by rw [Hid, HS.out, leastL_two, leastL_two]; rfl, (hba _).alloc (hba _).size _⟩
        · go_wp2_with fail
          refine (ref7_Least _ 2 2 [e, 7] _ rfl (Ri.two (blk_new w1 _))).mono ?_
          rintro e2 w2 ⟨rfl, rfl⟩
          go_wp2_with fail
          go_roundg (n - i)
          case measure => omega
          case rel => exact ⟨i + 1, _, by omega, by omega, by go_num, rfl, by rw [Hid, HS.out, leastL_two]; rfl, hba _⟩
    · have HI := Lib.hid (show i = n by omega)
      go_wp2_with fail
      go_ret
      refine ⟨ret_int ?_, hb⟩
      rw [he.out, List.take_of_length_le (by have := HL.out.len; have := HI.out; omega)]
end Go.Proofs.Ytajahomfmcbmlaa.T
