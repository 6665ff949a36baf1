/- auth.Answers to a hello that may be, of a name that is there. -/
import Derived.Test.YtlgngnkaiidbeaaDoorAuthF
import Derived.Test.YtlgngnkaiidbeaaDoorHmac2
set_option maxRecDepth 100000
set_option linter.unusedVariables false
set_option linter.unusedSimpArgs false
namespace Go.Proofs.YtlgngnkaiidbeaaDoor
open Go.RowKit Go.Shelf
/-- what is answered -/
def RetAn (w : World) (te : Te) (nonce d : List UInt8) (e : Ending) (w' : World) : Prop :=
  e = .returned (bif decide (tagB te.d (msgB nonce te.n) = d) then .tuple #[.string te.n, .int .i64 0] else .tuple #[.string ByteArray.empty, .int .i64 14]) ∧ Ext w w'
set_option maxHeartbeats 8000000 in
theorem aans_calls (A B D : Option Addr) (c b dc : Nat) (ls : List Te) (te : Te) (s : ByteArray) (nonce d : List UInt8) (w : World) (hb : TeIn w A ls) (hl : ls.length ≤ 100000) (hkl : ∀ t ∈ ls, t.d.length ≤ 1000 ∧ t.n.size ≤ 1000)
    (hn : RdB w B nonce) (hnl : nonce.length ≤ 1000) (hd : RdB w D d) (hW : wErr 2 0 0 s.data.toList d.length = 0) (hfi : ∃ k, ∃ h : k < ls.length, idxT ls (isN s) = (k : Int) ∧ ls[k] = te) (hL : Laid w) :
    Calls Tryd.prog 9 #[.slice A ls.length c, .slice B nonce.length b, .agg (frV 2 0 0 s (.slice D d.length dc))] w (RetAn w te nonce d) := by
  have HWC : Hid (∀ W, Calls Tryd.prog 22 #[.agg #[.int .i64 2, .int .i64 0, .int .i64 0, .string s, .slice D d.length dc]] W (RetV W (.int .i64 0))) := fun W => by
    have h := wcheck_calls 2 0 0 s D d.length dc W
    rw [hW] at h
    exact h
  have HFC : Hid (∀ W, Ext w W → Calls Tryd.prog 13 #[.slice A ls.length c, .string s] W (RetFd W ls s)) := fun W e => afindT_calls A c ls s W (hb.ext e) hl (fun t ht => by have := (hkl t ht).1; omega)
  have HOK : Hid (te.d.length ≤ 1000 ∧ te.n.size ≤ 1000) := by
    obtain ⟨k, h, _, rfl⟩ := hfi
    exact hkl _ (List.getElem_mem h)
  have HMS : Hid (∀ W, Ext w W → Calls Tryd.prog 19 #[.slice B nonce.length b, .string te.n] W (RetB W (msgB nonce te.n))) := fun W e => amsg_calls B b nonce te.n W (hn.ext e) hnl HOK.out.2
  have HML : Hid ((msgB nonce te.n).length ≤ 2000) := by show _ ≤ _; unfold msgB; rw [List.length_append]; have : te.n.data.toList.length = te.n.size := rfl; have := HOK.out.2; omega
  have HCK : Hid (∀ (W : World) (KA MA : Option Addr) (kc mc : Nat), Ext w W → RdB W KA te.d → te.d.length ≤ kc → kc ≤ 9223372036854775807 → RdB W MA (msgB nonce te.n) → Calls Tryd.prog 23 #[.slice KA te.d.length kc, .slice MA (msgB nonce te.n).length mc, .slice D d.length dc] W (RetV W (.bool (decide (tagB te.d (msgB nonce te.n) = d))))) :=
    fun W KA MA kc mc e h1 h2 h3 h4 => hcheck_calls KA MA D kc mc dc te.d (msgB nonce te.n) d W h1 h4 (hd.ext e) (by have := HOK.out.1; omega) (by have := HML.out; omega) h2 h3 (hL.ext e)
  have HFI := Lib.hid hfi
  clear hb hkl hn hd hW hfi hL
  unfold RetAn
  generalize msgB nonce te.n = M at *
  generalize decide (tagB te.d M = d) = bq at *
  go_enter Tryd.func9, Tryd.ntmps9
  go_wp2_with ((with_reducible show wpList _ _ _ ({ dst := some 5, op := Op.box 31 _, type := _, pos := _, after := _, guard := _ } :: _) _ _); refine bxA _ rfl 31 _ rfl (frV 2 0 0 s (.slice D d.length dc)) rfl ?_; intro g5 w5 hg hs1 k1 e1; have X5 := Lib.hid k1; have E5 := Lib.hid e1; obtain ⟨y0, y1, y2, y3, y4⟩ := fr_cells k1; clear hg hs1 k1 e1)
  refine (HWC.out w5).mono ?_
  rintro e w6 ⟨rfl, e6⟩
  have E6 := Lib.hid (E5.out.trans e6)
  have F6 := Lib.hid (X5.out.ext e6)
  clear e6 y0 y1 y2 y3 y4
  obtain ⟨y0, y1, y2, y3, y4⟩ := fr_cells F6.out
  go_wp2_with fail
  refine (HFC.out w6 E6.out).mono ?_
  intro e w7 hf
  obtain ⟨A7, c7, rfl, o7, e7⟩ : ∃ A c, e = .returned (.tuple #[.agg #[.string te.n, .slice A te.d.length c], .bool true]) ∧ OwnB w7 w6.heap.size A c te.d ∧ Ext w6 w7 := by
    obtain ⟨k, hk, hz, hte⟩ := HFI.out
    rcases hf with ⟨h1, _⟩ | ⟨j, hj, h1, _, A7, c7, h2, h3, h4⟩
    · rw [hz] at h1; omega
    · have : j = k := by rw [hz] at h1; omega
      subst this
      rw [hte] at h2 h3
      exact ⟨A7, c7, h2, h3, h4⟩
  have E7 := Lib.hid (E6.out.trans e7)
  have O7 := Lib.hid o7
  have F7 := Lib.hid (F6.out.ext e7)
  clear o7 e7 hf y0 y1 y2 y3 y4 E6 F6 HFC HWC X5
  go_wp2_with (first | ((with_reducible show wpList _ _ _ ({ dst := some 9, op := Op.alloc 24, type := _, pos := _, after := _, guard := _ } :: _) _ _); refine alA _ rfl 24 rfl _ _ zero_te ?_; intro g9 w8 hg hs1 k3 e3; have X8 := Lib.hid k3; have E8 := Lib.hid (E7.out.trans e3); have O8 := Lib.hid (O7.out.ext e3); have F8 := Lib.hid (F7.out.ext e3); have G9 := Lib.hid (Nat.le_trans E7.out.size (Nat.le_of_eq hg)); have N9 : Hid (g5 ≠ g9) := (fun e => by have := F7.out.lt; omega); have NO9 : Hid (∀ j, blk A7 = some j → j ≠ g9) := (fun j hj e => by have := (O7.out.base_ j hj).2; omega); clear hg hs1 k3 e3) | ((with_reducible show wpList _ _ _ ({ dst := none, op := Op.store 24 _ _, type := _, pos := _, after := _, guard := _ } :: _) _ _); refine stA _ rfl 24 24 _ _ rfl g9 _ (teV ⟨te.n, A7, c7, te.d⟩) rfl rfl X8.out size_te rfl (teV_one _) ?_; intro w9 hs k4 q4; have E9 := Lib.hid (show Ext w w9 from E8.out.grown q4 (fun k hk => by injection hk with hk; have := G9.out; omega)); have X9 := Lib.hid k4; have F9 := Lib.hid (F8.out.grown q4 (fun e => N9.out (by injection e))); have O9 := Lib.hid (O8.out.keep q4 (by cases hA : blk A7 with | none => exact .inl rfl | some j => exact .inr (fun e => NO9.out j hA (by injection e)))); clear hs k4 q4 X8 F8 O8 E8))
  have KS : Hid (∀ W, Ext w9 W → Ext w9 W ∧ (W.cell? ⟨g9, 0, none⟩ = some (.string te.n) ∧ W.cell? ⟨g9, 1, none⟩ = some (.slice A7 te.d.length c7)) ∧ W.cell? ⟨g5, 4, none⟩ = some (.slice D d.length dc)) := fun W e => ⟨e, ⟨(X9.out.ext e).cell_some rfl, (X9.out.ext e).cell_some rfl⟩, (F9.out.ext e).cell_some rfl⟩
  have HKC : Hid (te.d.length ≤ c7 ∧ c7 ≤ 9223372036854775807) := ⟨O9.out.cap, O9.out.capmax⟩
  have HKR := Lib.hid O9.out.rd
  go_region_held3 (fun W => Ext w9 W ∧ (W.cell? ⟨g9, 0, none⟩ = some (.string te.n) ∧ W.cell? ⟨g9, 1, none⟩ = some (.slice A7 te.d.length c7)) ∧ W.cell? ⟨g5, 4, none⟩ = some (.slice D d.length dc))
    (first | exact KS.out _ (Ext.refl _).drew | exact KS.out _ e11 | exact KS.out _ e10)
    (first | (go_at_call 19; refine (HMS.out _ (E9.out.drew)).mono ?_; rintro e w10 ⟨A10, c10, rfl, o10, e10'⟩; have e10 : Ext w9 w10 := (Ext.refl w9).drew.trans e10'; have R10 := o10.rd; clear e10' o10) | (go_at_call 23; refine (HCK.out _ _ _ _ _ (E9.out.trans e10) (HKR.out.ext e10) HKC.out.1 HKC.out.2 R10).mono ?_; rintro e w11 ⟨rfl, e11'⟩; have e11 : Ext w9 w11 := e10.trans e11'; clear e11'))
  have E11 := Lib.hid (E9.out.trans e11)
  have z0 : w11.cell? ⟨g9, 0, none⟩ = some (.string te.n) := (X9.out.ext e11).cell_some rfl
  clear e11 e10 R10
  cases bq with
  | true =>
    go_wp2_with fail
    go_ret2
    exact ⟨rfl, E11.out⟩
  | false =>
    go_wp2_with fail
    go_ret2
    exact ⟨rfl, E11.out⟩
end Go.Proofs.YtlgngnkaiidbeaaDoor
