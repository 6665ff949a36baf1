/- The contract of box.Next. -/
import Derived.Test.YtjbejaieihchmaaCrc2
namespace Go.Proofs.Ytjbejaieihchmaa
open Go.RowKit

/-- what stands at a place: the bytes, the place behind, what is wrong -/
def nextK (b : List UInt8) (k : Nat) : List UInt8 × Int × Int :=
  let rest := b.drop k
  if rest.length < 2 then ([], 0, 1) else
  let n := leN (rest.take 2)
  if n = 0 then ([], 0, 2) else
  if 4096 < n then ([], 0, 3) else
  if rest.length < n + 6 then ([], 0, 1) else
  if isSeal (rest.take (n + 6)) then ((rest.drop 2).take n, (k + n + 6 : Nat), 0) else ([], 0, 4)
def nextR (b : List UInt8) (a : Int) : List UInt8 × Int × Int :=
  if a < 0 ∨ b.length < a then ([], 0, 6) else nextK b a.toNat

def RetB3 (w : World) (bs : List UInt8) (x y : Value) (e : Ending) (w' : World) : Prop :=
  ∃ A c, e = .returned (.tuple #[.slice A bs.length c, x, y]) ∧ OwnB w' w.heap.size A c bs ∧ Ext w w'

theorem nextR_k (b : List UInt8) (k : Nat) (h : k ≤ b.length) : nextR b k = nextK b k := by
  rw [nextR, if_neg (by omega), Int.toNat_natCast]

set_option maxRecDepth 100000 in
set_option maxHeartbeats 2000000 in
theorem next_k (A : Option Addr) (c : Nat) (bs : List UInt8) (k : Nat) (w : World) (hb : RdB w A bs) (hl : bs.length ≤ 1000000) (hcap : bs.length ≤ c) (hcm : c ≤ 9223372036854775807) (hk : k ≤ bs.length) :
    Calls Try.prog 40 #[.slice A bs.length c, .int .i64 k] w (RetB3 w (nextK bs k).1 (.int .i64 (nextK bs k).2.1) (.int .i64 (nextK bs k).2.2)) := by
  have Hb := Lib.hid hb
  clear hb
  have hg : decide ((bs.length : Int) < k) = false := by simp; omega
  by_cases h2 : bs.length - k < 2
  · have HN : Hid (nextK bs k = ([], 0, 1)) := by show _ = _; rw [nextK]; simp only [List.length_drop]; rw [if_pos h2]
    rw [HN.out]
    by_cases hck : c = k
    · subst hck
      have h0 : bs.length - c = 0 := by omega
      have HL := Lib.hid h0
      clear h0
      go_enter Try.func40, Try.ntmps40
      go_wp2_with fail
      go_ret3
      exact ⟨none, 0, rfl, OwnB.nil _ _, Ext.refl _⟩
    · have h2' : ((bs.length - k : Nat) : Int) < 2 := by omega
      go_enter Try.func40, Try.ntmps40
      go_wp2_with fail
      go_ret3
      exact ⟨none, 0, rfl, OwnB.nil _ _, Ext.refl _⟩
  have hck : ¬ c = k := by omega
  obtain ⟨m, hm⟩ : ∃ m, bs.length - k = m + 2 := ⟨bs.length - k - 2, by omega⟩
  have HR : Hid (∀ W, Ext w W → RdB W (A.map (·.add k)) (bs.drop k)) := by
    intro W hW
    have h := (Hb.out.ext hW).cut k c hcap
    rw [if_neg hck] at h
    exact h
  have hRl : (bs.drop k).length = m + 2 := by rw [List.length_drop, hm]
  have HK : Hid (nextK bs k = if leN ((bs.drop k).take 2) = 0 then ([], 0, 2) else
      if 4096 < leN ((bs.drop k).take 2) then ([], 0, 3) else
      if m + 2 < leN ((bs.drop k).take 2) + 6 then ([], 0, 1) else
      if isSeal ((bs.drop k).take (leN ((bs.drop k).take 2) + 6)) then (((bs.drop k).drop 2).take (leN ((bs.drop k).take 2)), ((k + leN ((bs.drop k).take 2) + 6 : Nat) : Int), 0) else ([], 0, 4)) := by
    show _ = _
    rw [nextK]; simp only []; rw [hRl, if_neg (by omega)]
  have hcm2 : m + 2 ≤ c - k := by omega
  have hml : m ≤ 1000000 := by omega
  generalize hB : A.map (·.add k) = B at *
  generalize hR : bs.drop k = R at *
  generalize nextK bs k = X at *
  have HRl := Lib.hid hRl
  clear hRl hR
  have hc1 : c - k ≤ 9223372036854775807 := by omega
  have hck1 : k < c := by omega
  have HL2 : Hid ((R.take 2).length = 2) := by show _ = _; simp [HRl.out]
  have hn16 : leN (R.take 2) < 65536 := by have := leN_lt (R.take 2); rw [HL2.out] at this; exact this
  have HNC : Hid (Calls Try.prog 32 #[.slice B 2 (c - k)] w fun e w' => ∃ g, e = .returned (.pointer (some ⟨g, 0, none⟩)) ∧ w.heap.size ≤ g ∧ Cur w' g (R.take 2) 0 0 ∧ Ext w w') := by
    have h := newCursor_calls B (c - k) (R.take 2) w ((HR.out w (Ext.refl w)).take 2) (by rw [HL2.out]; omega)
    rw [HL2.out] at h
    exact h
  have HNum : Hid (∀ g W, Cur W g (R.take 2) 0 0 → Calls Try.prog 37 #[.pointer (some ⟨g, 0, none⟩), .int .i64 2] W (RetCV W g (R.take 2) (.int .u64 (leN (R.take 2))) 2 0)) := by
    intro g W hW
    have h := number2 g (R.take 2) 0 0 W hW (by rw [HL2.out]; omega)
    have ht := takeC_full (R.take 2)
    rw [HL2.out] at ht
    rw [ht] at h
    exact h
  generalize hT2 : R.take 2 = T2 at *
  clear hT2
  generalize leN T2 = n at *
  go_enter Try.func40, Try.ntmps40
  go_wp2_with fail
  refine HNC.out.mono ?_
  rintro e w1 ⟨g, rfl, hgl, hc1', e1⟩
  have HC1 := Lib.hid hc1'
  have E1 := Lib.hid e1
  clear hc1' e1
  go_wp2_with fail
  refine (HNum.out g _ HC1.out).mono ?_
  rintro e w2 ⟨rfl, g2, _⟩
  have E2 := Lib.hid (ext_grown' E1.out g2 hgl)
  clear g2
  by_cases h0 : n = 0
  · have HX : Hid (X = ([], 0, 2)) := by show _ = _; rw [HK.out, if_pos h0]
    subst h0
    go_wp2_with fail
    go_ret3
    rw [HX.out]
    exact ⟨none, 0, rfl, OwnB.nil _ _, E2.out⟩
  have h0' : ((n : Int) == 0) = false := beq_eq_false_iff_ne.2 (by omega)
  by_cases h3 : 4096 < n
  · have HX : Hid (X = ([], 0, 3)) := by show _ = _; rw [HK.out, if_neg h0, if_pos h3]
    go_wp2_with fail
    go_ret3
    rw [HX.out]
    exact ⟨none, 0, rfl, OwnB.nil _ _, E2.out⟩
  have hsize : Hid (∀ W, Calls Try.prog 27 #[.int .i64 n] W fun e w' => e = .returned (.int .i64 ((n : Int) + 6)) ∧ W = w') := by
    intro W
    have h := size_calls n W (by omega) (by omega)
    rw [if_pos (by omega)] at h
    exact h
  by_cases h4 : m + 2 < n + 6
  · have HX : Hid (X = ([], 0, 1)) := by show _ = _; rw [HK.out, if_neg h0, if_neg h3, if_pos h4]
    go_wp2_with fail
    refine (hsize.out _).mono ?_
    rintro e w' ⟨rfl, rfl⟩
    go_wp2_with fail
    go_ret3
    rw [HX.out]
    exact ⟨none, 0, rfl, OwnB.nil _ _, E2.out⟩
  have HLs : Hid ((R.take (n + 6)).length = n + 6) := by show _ = _; rw [List.length_take, HRl.out]; omega
  have hopen : Hid (Calls Try.prog 30 #[.slice B (n + 6) (c - k)] w2 (RetB2 w2 (openR (R.take (n + 6))).1 (.bool (openR (R.take (n + 6))).2))) := by
    have h := open_calls B (c - k) (R.take (n + 6)) w2 ((HR.out w2 E2.out).take (n + 6)) (by rw [HLs.out]; omega) (by rw [HLs.out]; omega) hc1
    rw [HLs.out] at h
    exact h
  have hadd : ((n : Int) + 6).toNat = n + 6 := by omega
  by_cases hs : isSeal (R.take (n + 6))
  · have HX : Hid (X = ((R.drop 2).take n, ((k + n + 6 : Nat) : Int), 0)) := by show _ = _; rw [HK.out, if_neg h0, if_neg h3, if_neg h4, if_pos hs]
    have HO : Hid (openR (R.take (n + 6)) = (R.take (n + 2), true)) := by
      show _ = _
      rw [openR, if_pos hs, HLs.out, List.take_take]
      congr 2
      omega
    have HLi : Hid ((R.take (n + 2)).length = n + 2) := by show _ = _; rw [List.length_take, HRl.out]; omega
    have HD : Hid ((R.take (n + 2)).drop 2 = (R.drop 2).take n) := by
      show _ = _
      rw [List.drop_take]; congr 1
    have HLd : Hid (((R.drop 2).take n).length = n) := by show _ = _; rw [List.length_take, List.length_drop, HRl.out]; omega
    clear hs
    go_wp2_with fail
    refine (hsize.out _).mono ?_
    rintro e w' ⟨rfl, rfl⟩
    go_wp2_with fail
    refine hopen.out.mono ?_
    rintro e w3 ⟨A3, c3, rfl, h3', e3⟩
    rw [HO.out] at h3' ⊢
    dsimp only at *
    have hc3 : n + 2 ≤ c3 := by have := h3'.cap; rw [HLi.out] at this; exact this
    have hc3m := h3'.capmax
    have hr3 := h3'.rd.cut 2 c3 h3'.cap
    rw [if_neg (by omega), HD.out] at hr3
    rw [HLi.out]
    have H3 := Lib.hid hr3
    have E3 := Lib.hid (E2.out.trans e3)
    clear h3' e3 hr3
    generalize (R.drop 2).take n = D at *
    have hne3 : ¬ c3 = 2 := by omega
    go_wp2_with (at_builtin; refine cpyB _ rfl (.const (.slice none 0 0)) (.tmp 51) rfl rfl (A3.map (·.add 2)) (c3 - 2) D (by rw [HLd.out]; rfl) ?_ H3.out ?c2; intro A4 c4 w4 h4' e4; have H4 := Lib.hid (h4'.lower E3.out.size); have E4 := Lib.hid (E3.out.trans e4); clear h4' e4)
    case c2 => rw [HLd.out]; omega
    go_ret3
    rw [HX.out]
    exact ⟨A4, c4, by show _ = Ending.returned (.tuple #[_, .int .i64 ((k + n + 6 : Nat) : Int), _]); rw [show ((k + n + 6 : Nat) : Int) = (k : Int) + ((n : Int) + 6) from by omega]; rfl, H4.out, E4.out⟩
  · have HX : Hid (X = ([], 0, 4)) := by show _ = _; rw [HK.out, if_neg h0, if_neg h3, if_neg h4, if_neg hs]
    have HO : Hid (openR (R.take (n + 6)) = ([], false)) := by show _ = _; rw [openR, if_neg hs]
    clear hs
    go_wp2_with fail
    refine (hsize.out _).mono ?_
    rintro e w' ⟨rfl, rfl⟩
    go_wp2_with fail
    refine hopen.out.mono ?_
    rintro e w3 ⟨A3, c3, rfl, h3', e3⟩
    rw [HO.out]
    have E3 := Lib.hid (E2.out.trans e3)
    clear h3' e3
    dsimp only at *
    go_wp2_with fail
    go_ret3
    rw [HX.out]
    exact ⟨none, 0, rfl, OwnB.nil _ _, E3.out⟩

theorem next_calls (A : Option Addr) (c : Nat) (bs : List UInt8) (a : Int) (w : World) (hb : RdB w A bs) (hl : bs.length ≤ 1000000) (hcap : bs.length ≤ c) (hcm : c ≤ 9223372036854775807) :
    Calls Try.prog 40 #[.slice A bs.length c, .int .i64 a] w (RetB3 w (nextR bs a).1 (.int .i64 (nextR bs a).2.1) (.int .i64 (nextR bs a).2.2)) := by
  by_cases h0 : a < 0
  · rw [show nextR bs a = ([], 0, 6) from by rw [nextR, if_pos (.inl h0)]]
    go_enter Try.func40, Try.ntmps40
    go_wp2_with fail
    go_ret3
    exact ⟨none, 0, rfl, OwnB.nil _ _, Ext.refl _⟩
  by_cases h1 : bs.length < a
  · rw [show nextR bs a = ([], 0, 6) from by rw [nextR, if_pos (.inr h1)]]
    go_enter Try.func40, Try.ntmps40
    go_wp2_with fail
    go_ret3
    exact ⟨none, 0, rfl, OwnB.nil _ _, Ext.refl _⟩
  obtain ⟨k, rfl⟩ : ∃ k : Nat, a = k := ⟨a.toNat, by omega⟩
  rw [nextR_k bs k (by omega)]
  exact next_k A c bs k w hb hl hcap hcm (by omega)
end Go.Proofs.Ytjbejaieihchmaa
