/-
Reference 03: Form; lists: Forms, Lights, Sames.
-/
import Derived.Test.YtajahomfmcbmlaaDig7
import Derived.Test.YtajahomfmcbmlaaForm2
namespace Go.Proofs.Ytajahomfmcbmlaa.T
open Go.RowKit Go.Proofs.YtajahomfmcbmlaaW.PrintWords Go.Proofs.YtajahomfmcbmlaaW.PrintLast Go.Proofs.YtajahomfmcbmlaaW.PrintMore
set_option linter.unusedVariables false

theorem Dm_one (g : Nat) : decide (Dm g = [1]) = (g == 1) := by
  have e : Dm 1 = [1] := by rw [Dm, lm_succ two_le_B32 (by decide), show 1 % B32 = 1 from rfl, show 1 / B32 = 0 from rfl, lm_zero]; rfl
  by_cases h : g = 1
  · subst h; simp [e]
  · have : Dm g ≠ [1] := fun h2 => h (lm_inj two_le_B32 (h2.trans e.symm))
    simp [this, h]

theorem dig_of_limbs {l : List Int} (h : InB B64 l) : (Dm (val B64 l).toNat).length ≤ 2 * l.length := by
  refine lm_len_le two_le_B32 _ _ ?_
  have h1 := val_lt (by decide) h
  have h2 := val_nonneg (by decide) h
  have e : ((B64 : Nat) : Int) ^ l.length = ((B32 ^ (2 * l.length) : Nat) : Int) := by rw [Nat.pow_mul, Int.natCast_pow]; rfl
  rw [e] at h1
  omega

set_option maxRecDepth 10000 in
set_option maxHeartbeats 4000000 in
theorem ref3_Form (s : Bool) (A B : Option Addr) (n k a b : Nat) (l m : List Int) (w : World) (hn : n = l.length) (hk : k = m.length) (hS : Sm (s, l, m)) (h1 : Rl w A l) (h2 : Rl w B m) :
    Calls Try.prog 37 #[.agg #[.bool s, .slice A n a, .slice B k b]] w fun e w' => e = .returned (.bool (formR (s, l, m))) ∧ Below w.heap.size w w' := by
  subst hn hk
  have hw : ∀ o1, Below w.heap.size w (w.alloc o1) := fun o1 => Below.alloc (Below.refl _ _) (Nat.le_refl _) _
  have HS := Lib.hid hS
  clear hS
  go_enter Try.func37, Try.ntmps37
  go_wp2_with fail
  refine (ref_Form _ _ l _ (h1.below (hw _))).mono ?_
  rintro e w1 ⟨rfl, rfl⟩
  go_wp2_with fail
  · have f1 : formB l = true := by assumption
    refine (ref_Form _ _ m _ (h2.below (hw _))).mono ?_
    rintro e w1 ⟨rfl, rfl⟩
    by_cases f2 : formB m = true
    · rw [f2]
      have HL : Hid (l = Lm (val B64 l).toNat) := (lm_val two_le_B64 HS.out.2.2.1 ((formB_iff _).1 f1)).symm
      have HM : Hid (m = Lm (val B64 m).toNat) := (lm_val two_le_B64 HS.out.2.2.2 ((formB_iff _).1 f2)).symm
      have F1 := Lib.hid (And.intro f1 f2)
      clear f1 f2
      by_cases f3 : m.length = 0
      · have g : ((m.length : Int) == 0) = true := by simp [f3]
        have F3 := Lib.hid f3
        clear f3
        go_wp2_with fail
        go_ret
        exact ⟨ret_bool (by simp [formR, F3.out]), hw _⟩
      · have g : ((m.length : Int) == 0) = false := by simp; simpa using f3
        by_cases f4 : l.length = 0
        · have g2 : ((l.length : Int) == 0) = true := by simp [f4]
          have e1 : formR (s, l, m) = (!s && decide (m = [1])) := by simp only [formR, F1.out.1, F1.out.2, f4]; simp [f3]
          have E1 := Lib.hid e1
          clear f3 f4 e1
          by_cases f5 : m.length = 1
          · obtain ⟨x, rfl⟩ := List.length_eq_one_iff.1 f5
            obtain ⟨ad, rfl, hc⟩ := Rl.at h2 0 (by simp)
            have hc' : w.cell? ad = some (.int .u64 x) := by simpa [Addr.add] using hc
            clear hc f5
            have hc2 : ∀ o, (w.alloc o).cell? ad = some (.int .u64 x) := fun o => pw_cell_below (hw o) hc'
            cases s
            all_goals
              go_wp2_with fail
              go_ret
              exact ⟨ret_bool (by rw [E1.out]; by_cases hx : x = 1 <;> simp [hx]), hw _⟩
          · have g3 : ((m.length : Int) == 1) = false := by simp; omega
            have E2 := Lib.hid f5
            clear f5
            cases s
            all_goals
              go_wp2_with fail
              go_ret
              refine ⟨ret_bool ?_, hw _⟩
              rw [E1.out]
              have : decide (m = [1]) = false := by simp; intro e; exact E2.out (by rw [e]; rfl)
              simp [this]
        · have g2 : ((l.length : Int) == 0) = false := by simp; simpa using f4
          have e1 : formR (s, l, m) = decide (Dm (Nat.gcd (val B64 l).toNat (val B64 m).toNat) = [1]) := by
            simp only [formR, F1.out.1, F1.out.2]
            simp only [Dm_one]
            simp [f4, f3]
          have E1 := Lib.hid e1
          clear f3 f4 e1
          go_wp2_with fail
          have hf1 : ∀ W, Below w.heap.size w W → Calls Try.prog 78 #[.slice A l.length a] W fun e w' => ∃ A1 c1, e = .returned (.slice A1 (Dm (val B64 l).toNat).length c1) ∧ Rl w' A1 (Dm (val B64 l).toNat) ∧ Below W.heap.size W w' := fun W h => (ref_From A _ a l W rfl HS.out.2.2.1 (by have : l.length ≤ 137438953472 := HS.out.1; omega) (h1.below h)).mono fun e w' ⟨v, he, hv, hb⟩ => by
            obtain ⟨A1, c1, rfl⟩ := Kd.R_slice hv
            exact ⟨A1, c1, he, (Kd.R_reads' hv).2.2, hb⟩
          have hf2 : ∀ W, Below w.heap.size w W → Calls Try.prog 78 #[.slice B m.length b] W fun e w' => ∃ A1 c1, e = .returned (.slice A1 (Dm (val B64 m).toNat).length c1) ∧ Rl w' A1 (Dm (val B64 m).toNat) ∧ Below W.heap.size W w' := fun W h => (ref_From B _ b m W rfl HS.out.2.2.2 (by have : m.length ≤ 137438953472 := HS.out.2.1; omega) (h2.below h)).mono fun e w' ⟨v, he, hv, hb⟩ => by
            obtain ⟨A1, c1, rfl⟩ := Kd.R_slice hv
            exact ⟨A1, c1, he, (Kd.R_reads' hv).2.2, hb⟩
          have hW0 : ∀ o1, Below w.heap.size w (w.alloc o1).drew := fun o1 => (hw o1).drew
          go_region_held3 (fun w' => w'.cell? ⟨w.heap.size, 1, none⟩ = some (.slice A l.length a) ∧ w'.cell? ⟨w.heap.size, 2, none⟩ = some (.slice B m.length b)) (first | exact hS3 | exact hS2 | exact hS1 | go_keep)
            (first
              | (go_at_call_of 78 A; refine (hf1 _ (hW0 _)).mono ?_; rintro e w7 ⟨A1, c1, rfl, hv1, hb1⟩
                 have hw7 := (hW0 _).trans (hb1.mono (hW0 _).size)
                 have hx7 : w7.heap[w.heap.size]? = some (.cells #[.bool s, .slice A l.length a, .slice B m.length b] 53 (0, 0)) := blk_below (blk_drew (blk_new w _)) hb1
                 have hS1 := And.intro (blk_cell hx7 1) (blk_cell hx7 2))
              | (go_at_call_of 78 B; refine (hf2 _ hw7).mono ?_; rintro e w8 ⟨A2, c2, rfl, hv2, hb2⟩
                 have hw8 := hw7.trans (hb2.mono hw7.size)
                 have hx8 := blk_below hx7 hb2
                 have hS2 := And.intro (blk_cell hx8 1) (blk_cell hx8 2))
              | (go_at_call 77; refine (dig_Gcd A1 A2 _ _ c1 c2 _ _ _ rfl rfl (Nat.le_trans (dig_of_limbs HS.out.2.2.1) (Nat.le_trans (Nat.mul_le_mul_left 2 HS.out.1) (by decide))) (Nat.le_trans (dig_of_limbs HS.out.2.2.2) (Nat.le_trans (Nat.mul_le_mul_left 2 HS.out.2.1) (by decide))) (hv1.below hb2) hv2).mono ?_; rintro e w9 ⟨A3, c3, rfl, hv3, hb3⟩
                 have hw9 := hw8.trans (hb3.mono hw8.size)
                 have hx9 := blk_below hx8 hb3
                 have hS3 := And.intro (blk_cell hx9 1) (blk_cell hx9 2)))
          obtain ⟨G, hG⟩ : ∃ G, Dm (Nat.gcd (val B64 l).toNat (val B64 m).toNat) = G := ⟨_, rfl⟩
          rw [hG] at hv3 E1 ⊢
          clear hG
          by_cases f5 : G.length = 1
          · obtain ⟨x, rfl⟩ := List.length_eq_one_iff.1 f5
            obtain ⟨ad, rfl, hc⟩ := Rl.at hv3 0 (by simp)
            have hc' : w9.cell? ad = some (.int .u64 x) := by simpa [Addr.add] using hc
            clear hc f5
            go_wp2_with fail
            go_ret
            exact ⟨ret_bool (by rw [E1.out]; by_cases hx : x = 1 <;> simp [hx]), hw9⟩
          · have g3 : ((G.length : Int) == 1) = false := by simp; omega
            have E2 := Lib.hid f5
            clear f5
            go_wp2_with fail
            go_ret
            refine ⟨ret_bool ?_, hw9⟩
            rw [E1.out]
            have : decide (G = [1]) = false := by simp; intro e; exact E2.out (by rw [e]; rfl)
            simp [this]
    · rw [show formB m = false by simpa using f2]
      have F1 := Lib.hid f2
      clear f2
      go_wp2_with fail
      go_ret
      exact ⟨ret_bool (by have := F1.out; simp [formR, this]), hw _⟩
  · have F1 := Lib.hid (show ¬ formB l = true by assumption)
    go_ret
    exact ⟨ret_bool (by have := F1.out; simp [formR, this]), hw _⟩

set_option maxRecDepth 10000 in
set_option maxHeartbeats 1000000 in
theorem ref3_Forms (A : Option Addr) (n c : Nat) (xs : List Rw) (w : World) (hn : n = xs.length) (hN : n ≤ 1099511627776) (hS : Small xs) (hA : Rq w A xs) :
    Calls Try.prog 60 #[.slice A n c] w fun e w' => e = .returned (.bool (xs.all formR)) ∧ Below w.heap.size w w' := by
  have HN := Lib.hid hn
  have HS := Lib.hid hS
  clear hn hS
  go_enter Try.func60, Try.ntmps60
  go_wp2_with fail
  go_loopg [7] (n + 1) (fun k t wr => ∃ (i : Nat), i ≤ n ∧ n < i + k ∧ t = .int .i64 i ∧ Hid ((xs.take i).all formR = true) ∧ Below w.heap.size w wr)
  case atStart => exact ⟨0, Nat.zero_le _, by omega, rfl, rfl, Below.refl _ _⟩
  case round =>
    obtain ⟨i, hi, hg, rfl, hall, hb⟩ := hrel
    by_cases hlt : i < n
    · obtain ⟨ad, A1, c1, A2, c2, rfl, e1, e2, e3, g1, g2⟩ := Rq.at (hA.below hb) i (by have := HN.out; omega)
      obtain ⟨p, hp⟩ : ∃ x, xs.getD i zQ = x := ⟨_, rfl⟩
      have hsm := HS.out.get i
      rw [hp] at e1 e2 e3 g1 g2 hsm
      have hsm := Lib.hid hsm
      have HP := Lib.hid hp
      clear hp
      obtain ⟨s, l, m⟩ := p
      have hba : ∀ o, Below wr.heap.size wr (wr.alloc o) := fun o => Below.alloc (Below.refl _ _) (Nat.le_refl _) _
      go_wp2_with fail
      refine (ref3_Form s A1 A2 _ _ _ _ l m _ rfl rfl hsm.out (g1.below (hba _)) (g2.below (hba _))).mono ?_
      rintro e w1 ⟨rfl, hb1⟩
      have hb1 := hb.trans (((hba _).trans (hb1.mono (hba _).size)).mono hb.size)
      obtain ⟨b, hbq⟩ : ∃ b, formR (s, l, m) = b := ⟨_, rfl⟩
      rw [hbq]
      have HB := Lib.hid hbq
      clear hbq
      cases b
      · go_wp2_with fail
        go_ret
        exact ⟨ret_bool (all_not xs formR zQ i (by have := HN.out; omega) (by rw [HP.out]; exact HB.out)).symm, hb1⟩
      · go_wp2_with fail
        go_roundg (n - i)
        case measure => omega
        case rel => exact ⟨i + 1, by omega, by omega, by go_num, take_all _ _ zQ _ (by have := HN.out; omega) hall.out (by rw [HP.out]; exact HB.out), hb1⟩
    · have HI := Lib.hid (show i = n by omega)
      go_wp2_with fail
      go_ret
      refine ⟨ret_bool ?_, hb⟩
      have := hall.out
      rw [List.take_of_length_le (by have := HN.out; have := HI.out; omega)] at this
      exact this.symm

/-- At most 300 numbers of at most N limbs? -/
def lightR (N : Int) (x : Rw) : Bool := decide ((x.2.1.length : Int) ≤ N ∧ (x.2.2.length : Int) ≤ N)
def lightsR (N : Int) (xs : List Rw) : Bool := decide (xs.length ≤ 300) && xs.all (lightR N)

set_option maxRecDepth 10000 in
set_option maxHeartbeats 1000000 in
theorem ref3_Lights (A : Option Addr) (n c : Nat) (N : Int) (xs : List Rw) (w : World) (hn : n = xs.length) (hA : Rq w A xs) :
    Calls Try.prog 15 #[.slice A n c, .int .i64 N] w fun e w' => e = .returned (.bool (lightsR N xs)) ∧ Below w.heap.size w w' := by
  have HN := Lib.hid hn
  have hmx := hA.2.1
  by_cases h3 : n ≤ 300
  · clear hn
    go_enter Try.func15, Try.ntmps15
    go_wp2_with fail
    go_loopg [12] (n + 1) (fun k t wr => ∃ (i : Nat), i ≤ n ∧ n < i + k ∧ t = .int .i64 i ∧ Hid ((xs.take i).all (lightR N) = true) ∧ Below w.heap.size w wr)
    case atStart => exact ⟨0, Nat.zero_le _, by omega, rfl, rfl, Below.refl _ _⟩
    case round =>
      obtain ⟨i, hi, hg, rfl, hall, hb⟩ := hrel
      by_cases hlt : i < n
      · obtain ⟨ad, A1, c1, A2, c2, rfl, e1, e2, e3, g1, g2⟩ := Rq.at (hA.below hb) i (by have := HN.out; omega)
        obtain ⟨p, hp⟩ : ∃ x, xs.getD i zQ = x := ⟨_, rfl⟩
        rw [hp] at e1 e2 e3 g1 g2
        have HP := Lib.hid hp
        clear hp
        obtain ⟨s, l, m⟩ := p
        have l1 := g1.len
        have l2 := g2.len
        have hba : ∀ o, Below wr.heap.size wr (wr.alloc o) := fun o => Below.alloc (Below.refl _ _) (Nat.le_refl _) _
        go_wp2_with fail
        refine (ref_Light s A1 A2 _ _ _ _ N _ l1 l2).mono ?_
        rintro e w1 ⟨rfl, hb1⟩
        have hb1 := hb.trans (((hba _).trans (hb1.mono (hba _).size)).mono hb.size)
        obtain ⟨b, hbq⟩ : ∃ b, decide ((l.length : Int) ≤ N ∧ (m.length : Int) ≤ N) = b := ⟨_, rfl⟩
        rw [hbq]
        have HB := Lib.hid (show lightR N (xs.getD i zQ) = b by rw [HP.out]; exact hbq)
        clear hbq
        cases b
        · go_wp2_with fail
          go_ret
          refine ⟨ret_bool ?_, hb1⟩
          unfold lightsR
          rw [all_not xs (lightR N) zQ i (by have := HN.out; omega) HB.out]; simp
        · go_wp2_with fail
          go_roundg (n - i)
          case measure => omega
          case rel => exact ⟨i + 1, by omega, by omega, by go_num, take_all _ _ zQ _ (by have := HN.out; omega) hall.out HB.out, hb1⟩
      · have HI := Lib.hid (show i = n by omega)
        go_wp2_with fail
        go_ret
        refine ⟨ret_bool ?_, hb⟩
        have := hall.out
        rw [List.take_of_length_le (by have := HN.out; have := HI.out; omega)] at this
        unfold lightsR
        rw [this, show decide (xs.length ≤ 300) = true by have := HN.out; simp; omega]; rfl
  · have h4 : 300 < (n : Int) := by omega
    clear hn
    go_enter Try.func15, Try.ntmps15
    go_wp2_with fail
    go_ret
    refine ⟨ret_bool ?_, Below.refl _ _⟩
    unfold lightsR
    rw [show decide (xs.length ≤ 300) = false by have := HN.out; simp; omega]; rfl

theorem take_eq_succ {α : Type} {xs ys : List α} {z : α} {i : Nat} (h1 : i < xs.length) (h2 : i < ys.length) (h : xs.take i = ys.take i) (e : xs.getD i z = ys.getD i z) : xs.take (i + 1) = ys.take (i + 1) := by
  rw [List.getD_eq_getElem?_getD, List.getD_eq_getElem?_getD, List.getElem?_eq_getElem h1, List.getElem?_eq_getElem h2] at e
  rw [List.take_succ_eq_append_getElem h1, List.take_succ_eq_append_getElem h2, h]
  simp only [Option.getD_some] at e
  rw [e]

set_option maxRecDepth 10000 in
set_option maxHeartbeats 1000000 in
theorem ref3_Sames (A B : Option Addr) (n m c d : Nat) (xs ys : List Rw) (w : World) (hn : n = xs.length) (hm : m = ys.length) (hA : Rq w A xs) (hB : Rq w B ys) :
    Calls Try.prog 27 #[.slice A n c, .slice B m d] w fun e w' => e = .returned (.bool (decide (xs = ys))) ∧ Below w.heap.size w w' := by
  have HN := Lib.hid (And.intro hn hm)
  have hmx := hA.2.1
  have hmy := hB.2.1
  rw [← hn] at hmx
  rw [← hm] at hmy
  clear hn hm
  by_cases h3 : n = m
  · subst h3
    go_enter Try.func27, Try.ntmps27
    go_wp2_with fail
    go_loopg [13] (n + 1) (fun k t wr => ∃ (i : Nat), i ≤ n ∧ n < i + k ∧ t = .int .i64 i ∧ Hid (xs.take i = ys.take i) ∧ Below w.heap.size w wr)
    case atStart => exact ⟨0, Nat.zero_le _, by omega, rfl, rfl, Below.refl _ _⟩
    case round =>
      obtain ⟨i, hi, hg, rfl, hall, hb⟩ := hrel
      by_cases hlt : i < n
      · obtain ⟨ad, A1, c1, A2, c2, rfl, e1, e2, e3, g1, g2⟩ := Rq.at (hA.below hb) i (by have := HN.out; omega)
        obtain ⟨bd, B1, d1, B2, d2, rfl, f1, f2, f3, k1, k2⟩ := Rq.at (hB.below hb) i (by have := HN.out; omega)
        obtain ⟨p, hp⟩ : ∃ x, xs.getD i zQ = x := ⟨_, rfl⟩
        obtain ⟨q, hq⟩ : ∃ x, ys.getD i zQ = x := ⟨_, rfl⟩
        rw [hp] at e1 e2 e3 g1 g2
        rw [hq] at f1 f2 f3 k1 k2
        have HP := Lib.hid (And.intro hp hq)
        clear hp hq
        obtain ⟨s, l, m⟩ := p
        obtain ⟨s', l', m'⟩ := q
        have hd : Below wr.heap.size wr wr.drew := (Below.refl _ _).drew
        obtain ⟨b, hbq⟩ : ∃ b, decide (s = s' ∧ l = l' ∧ m = m') = b := ⟨_, rfl⟩
        have HB := Lib.hid hbq
        clear hbq
        go_wp2_with fail
        go_region_held3 (fun w' => w'.cell? (ad.add (i * 3)) = some (.bool s) ∧ w'.cell? ⟨(ad.add (i * 3)).block, (ad.add (i * 3)).off + 1, none⟩ = some (.slice A1 l.length c1) ∧ w'.cell? ⟨(ad.add (i * 3)).block, (ad.add (i * 3)).off + 2, none⟩ = some (.slice A2 m.length c2) ∧ w'.cell? (bd.add (i * 3)) = some (.bool s') ∧ w'.cell? ⟨(bd.add (i * 3)).block, (bd.add (i * 3)).off + 1, none⟩ = some (.slice B1 l'.length d1) ∧ w'.cell? ⟨(bd.add (i * 3)).block, (bd.add (i * 3)).off + 2, none⟩ = some (.slice B2 m'.length d2)) (first | exact hS1 | exact ⟨e1, e2, e3, f1, f2, f3⟩ | go_keep)
          ((go_at_call 45; refine (ref3_Same s s' A1 A2 B1 B2 _ _ _ _ l m l' m' _ (g1.below hd) (g2.below hd) (k1.below hd) (k2.below hd)).mono ?_; rintro e w7 ⟨rfl, hb1⟩
            rw [HB.out]
            have hb2 := hd.trans hb1
            have hS1 := And.intro (pw_cell_below hb2 e1) (And.intro (pw_cell_below hb2 e2) (And.intro (pw_cell_below hb2 e3) (And.intro (pw_cell_below hb2 f1) (And.intro (pw_cell_below hb2 f2) (pw_cell_below hb2 f3)))))))
        have hb3 := hb.trans (hb2.mono hb.size)
        cases b
        · go_wp2_with fail
          go_ret
          refine ⟨ret_bool ?_, hb3⟩
          symm
          simp only [decide_eq_false_iff_not]
          intro e
          subst e
          have := HP.out.1.symm.trans HP.out.2
          have h2 := HB.out
          simp only [decide_eq_false_iff_not] at h2
          exact h2 (by simpa using this)
        · go_wp2_with fail
          go_roundg (n - i)
          case measure => omega
          case rel =>
            have h2 := HB.out
            simp only [decide_eq_true_eq] at h2
            obtain ⟨r1, r2, r3⟩ := h2
            exact ⟨i + 1, by omega, by omega, by go_num, take_eq_succ (z := zQ) (by have := HN.out; omega) (by have := HN.out; omega) hall.out (by rw [HP.out.1, HP.out.2, r1, r2, r3]), hb3⟩
      · have HI := Lib.hid (show i = n by omega)
        go_wp2_with fail
        go_ret
        refine ⟨ret_bool ?_, hb⟩
        have := hall.out
        rw [List.take_of_length_le (by have := HN.out; have := HI.out; omega), List.take_of_length_le (by have := HN.out; have := HI.out; omega)] at this
        simp [this]
  · have h4 : ((n : Int) != m) = true := by simp; omega
    have H3 := Lib.hid h3
    clear h3
    go_enter Try.func27, Try.ntmps27
    go_wp2_with fail
    go_ret
    refine ⟨ret_bool ?_, Below.refl _ _⟩
    symm
    simp only [decide_eq_false_iff_not]
    intro e
    exact H3.out (by rw [HN.out.1, HN.out.2, e])
end Go.Proofs.Ytajahomfmcbmlaa.T
