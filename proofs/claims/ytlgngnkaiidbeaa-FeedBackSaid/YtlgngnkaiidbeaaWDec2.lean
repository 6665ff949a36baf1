/- bytes.Clone; wire.Decode's closure for the data. -/
import Derived.Test.YtlgngnkaiidbeaaWDec
set_option maxRecDepth 100000
set_option linter.unusedVariables false
set_option linter.unusedSimpArgs false
namespace Go.Proofs.Ytlgngnkaiidbeaa
open Go.RowKit

theorem nil_nil (w : World) : (binOp .eql 27 (.slice none 0 0) (.slice none 0 0)).run Try.prog w = .ok (.bool true) w := by kernel_rfl
theorem nil_some (w : World) (ad : Addr) (n c : Nat) : (binOp .eql 27 (.slice (some ad) n c) (.slice none 0 0)).run Try.prog w = .ok (.bool false) w := by kernel_rfl
theorem own_zero {w : World} {base : Nat} {A : Option Addr} {c : Nat} {bs : List UInt8} (h : OwnB w base A c bs) : A = none → c = 0 := by
  rintro rfl
  rcases h.2 with ⟨hv, _⟩ | ⟨g, cap, cur, hv, _⟩
  · injection hv
  · injection hv with h1; cases h1
theorem bclone_calls (A : Option Addr) (c : Nat) (bs : List UInt8) (w : World) (hb : RdB w A bs) (hl : bs.length ≤ 1000000) (hn0 : A = none → c = 0) :
    Calls Try.prog 65 #[.slice A bs.length c] w (RetB w bs) := by
  have Hb := Lib.hid hb
  clear hb
  cases A with
  | none =>
    obtain rfl := hn0 rfl
    clear hn0
    have hn : bs = [] := by
      cases bs with
      | nil => rfl
      | cons y l => obtain ⟨ad, h, _⟩ := Hb.out 0 (bv y) (by simp); cases h
    subst hn
    have hnn := nil_nil
    go_enter Try.func65, Try.ntmps65
    go_wp2_with fail
    go_ret
    exact ⟨none, 0, rfl, OwnB.nil _ _, Ext.refl _⟩
  | some ad =>
    clear hn0
    have hns := nil_some
    go_enter Try.func65, Try.ntmps65
    go_wp2_with (at_builtin; refine cpyE w rfl (.tmp 5) (.tmp 6) rfl rfl (some ad) c bs rfl ?_ Hb.out ?c2; intro A1 c1 w1 h1 e1; have H1 := Lib.hid h1; have E1 := Lib.hid e1; clear h1 e1)
    case c2 => omega
    go_ret
    exact ⟨A1, c1, rfl, H1.out, E1.out⟩

set_option maxHeartbeats 2000000 in
theorem wdec5_calls (w W : World) (g2 gv g6 gc : Nat) (k s n : Int) (t : ByteArray) (A : Option Addr) (c : Nat) (d : List UInt8) (bs : List UInt8) (kk : Nat) (er : Int) (h : DG w W g2 gv g6 gc k s n t A c d bs kk er) (hl : bs.length ≤ 1000000) :
    Calls Try.prog 149 #[.pointer (some ⟨gv, 0, none⟩), .pointer (some ⟨g6, 0, none⟩)] W fun e W' => e = .returned (.tuple #[]) ∧ ∃ A' c', DG w W' g2 gv g6 gc k s n t A' c' (datC bs true kk er).1 bs (datC bs true kk er).2.1 (datC bs true kk er).2.2 := by
  have HD := Lib.hid h
  have CV : Hid (∀ w' k' er', DG w w' g2 gv g6 gc k s n t A c d bs k' er' → w'.cell? ⟨gv, 0, none⟩ = some (.pointer (some ⟨gc, 0, none⟩))) := fun w' k' er' h => h.2.2.1.cell 0
  clear h
  have HX : Hid (datC bs true kk er = bytesC bs kk er ((bs.length - kk : Nat) : Int)) := rfl
  have hlen : (bytesC bs kk er ((bs.length - kk : Nat) : Int)).1.length ≤ 1000000 := by
    unfold bytesC
    split
    · simp
    · have := takeC_len bs kk er ((bs.length - kk : Nat) : Int).toNat; omega
  have HBy : Hid (∀ W, Cur W gc bs kk er → Calls Try.prog 150 #[.pointer (some ⟨gc, 0, none⟩), .int .i64 ((bs.length - kk : Nat) : Int)] W (RetCB W gc bs (bytesC bs kk er ((bs.length - kk : Nat) : Int)))) := fun W hc => cbytes_calls gc bs kk er _ W hc hl (by omega)
  rw [HX.out]
  generalize bytesC bs kk er ((bs.length - kk : Nat) : Int) = r at *
  obtain ⟨l, k1, e1⟩ := r
  dsimp only at *
  have HLf : Hid (∀ W, Cur W gc bs kk er → Calls Try.prog 141 #[.pointer (some ⟨gc, 0, none⟩)] W fun e w' => e = .returned (.int .i64 ((bs.length - kk : Nat) : Int)) ∧ ∃ n, w' = W.drewN n) := fun W hc => cleft_calls gc bs kk er W hc hl
  generalize ((bs.length - kk : Nat) : Int) = q at *
  have D0 := Lib.hid (HD.out.ext (Ext.refl _).drew)
  go_enter Try.func149, Try.ntmps149
  go_region_held3 (fun w' => w'.cell? ⟨gv, 0, none⟩ = some (.pointer (some ⟨gc, 0, none⟩)))
    (first | exact CV.out _ _ _ D0.out | exact CV.out _ _ _ (HD.out.ext ((Ext.refl _).drewN _)) | exact CV.out _ _ _ D2.out | exact CV.out _ _ _ D3.out | exact (D3.out.2.2.1.other D3.out.2.2.2.2.2.2.1.2.2.2.1 4 _).cell 0)
    (first | (go_at_call 141; refine (HLf.out _ (by first | exact D0.out.2.2.2.2.1)).mono ?_; rintro e w1 ⟨rfl, n1, rfl⟩; have D1 := Lib.hid (D0.out.ext ((Ext.refl _).drewN n1))) | (go_at_call 150; refine (HBy.out _ (by first | exact D1.out.2.2.2.2.1 | exact (HD.out.ext ((Ext.refl _).drewN _)).2.2.2.2.1)).mono ?_; rintro e w2 ⟨A2, c2, rfl, o2, q2, u2⟩; have R2 := Lib.hid o2.rd; have Z2 := Lib.hid (own_zero o2); have D2 := Lib.hid ((HD.out.ext ((Ext.refl _).drewN _)).cur q2 u2); clear o2 q2 u2) | (go_at_call 65; refine (bclone_calls A2 c2 l _ R2.out hlen Z2.out).mono ?_; rintro e w3 ⟨A3, c3, rfl, o3, e3⟩; have O3 := Lib.hid (o3.lower D2.out.1.size); have D3 := Lib.hid (D2.out.ext e3); have cf := D3.out.2.2.2.1.cell 4; have ff := D3.out.2.2.2.1.frozen 4; simp [fraV] at cf; clear o3 e3))
  have D4 := Lib.hid (D3.out.data (grown_setCellC w3 g6 4 (.slice A3 l.length c3)) O3.out (show Arr _ g6 65 (fraV k s n t (.slice A3 l.length c3)) from D3.out.2.2.2.1.set 4 _))
  go_end0
  exact ⟨rfl, A3, c3, D4.out⟩

theorem wdec_d (has : Bool) (w W : World) (g2 gv g6 gc : Nat) (k s n : Int) (t : ByteArray) (bs : List UInt8) (kk : Nat) (er : Int) (h : DG w W g2 gv g6 gc k s n t none 0 [] bs kk er) (hl : bs.length ≤ 1000000) :
    Calls Try.prog 144 #[.bool has, .func (.func 149) #[] #[.pointer (some ⟨gv, 0, none⟩), .pointer (some ⟨g6, 0, none⟩)]] W fun e W' => e = .returned (.tuple #[]) ∧ ∃ A' c', DG w W' g2 gv g6 gc k s n t A' c' (datC bs has kk er).1 bs (datC bs has kk er).2.1 (datC bs has kk er).2.2 := by
  have HD := Lib.hid h
  clear h
  cases has
  · go_enter Try.func144, Try.ntmps144
    go_wp2_with fail
    go_end0
    exact ⟨rfl, none, 0, HD.out⟩
  go_enter Try.func144, Try.ntmps144
  go_wp2_with fail
  refine (wdec5_calls w W g2 gv g6 gc _ _ _ _ _ _ _ bs kk er HD.out hl).mono ?_
  rintro e W1 ⟨rfl, d1⟩
  have D1 := Lib.hid d1
  clear d1
  go_wp2_with fail
  go_end0
  exact ⟨rfl, D1.out⟩
end Go.Proofs.Ytlgngnkaiidbeaa
