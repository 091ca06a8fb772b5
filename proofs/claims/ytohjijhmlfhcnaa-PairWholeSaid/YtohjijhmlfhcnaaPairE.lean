/- The statement PairBits: its walk. -/
import Derived.Test.YtohjijhmlfhcnaaPairD
namespace Go.Proofs.Ytohjijhmlfhcnaa
set_option linter.unusedVariables false
set_option linter.unusedSimpArgs false
open Go.RowKit
theorem compl_len (bs : List UInt8) : (compl bs).length = bs.length := by simp [compl]
theorem compl_inj {a b : List UInt8} (h : compl a = compl b) : a = b := by
  have := congrArg compl h
  simpa [compl, Function.comp_def] using this
/-- When a slot is whole. -/
theorem getP_eq (t : ByteArray) : getP t = if 32 ≤ t.size ∧ t.data.toList.drop 32 = compl (t.data.toList.take 32) then (t.extract 0 32, 0) else (str [], 200) := by
  have hl := data_len t
  unfold getP
  by_cases h : 32 ≤ t.size
  · have e : (t.extract 0 32).data.toList = t.data.toList.take 32 := by rw [ByteArray.data_extract, Array.toList_extract]; simp
    have hp : (putP (t.extract 0 32)).1 = str (t.data.toList.take 32 ++ compl (t.data.toList.take 32)) := by
      unfold putP
      rw [if_pos (ext_size t h), e]
    have hiff : (32 ≤ t.size ∧ (putP (t.extract 0 32)).1 = t) ↔ (32 ≤ t.size ∧ t.data.toList.drop 32 = compl (t.data.toList.take 32)) := by
      rw [hp]
      refine and_congr_right fun _ => ?_
      constructor
      · intro h2
        have h3 := congrArg (fun x => x.data.toList) h2
        simp only [str_data] at h3
        have h4 : t.data.toList.take 32 ++ t.data.toList.drop 32 = t.data.toList.take 32 ++ compl (t.data.toList.take 32) := by rw [List.take_append_drop, h3]
        exact List.append_cancel_left h4
      · intro h2
        apply ext_str
        rw [str_data, ← h2, List.take_append_drop]
    by_cases hc : 32 ≤ t.size ∧ (putP (t.extract 0 32)).1 = t
    · rw [if_pos hc, if_pos (hiff.1 hc)]
    · rw [if_neg hc, if_neg (fun x => hc (hiff.2 x))]
  · rw [if_neg (fun x => h x.1), if_neg (fun x => h x.1)]

/-- A slot of which a byte was turned is none. -/
theorem flip_get (s : List UInt8) (hs : s.length = 32) (p : Nat) (hp : p < 64) (m : UInt8) (hm : m ≠ 0) :
    getP (str ((s ++ compl s).set p ((s ++ compl s).getD p 0 ^^^ m))) = (str [], 200) := by
  have hc := compl_len s
  rw [getP_eq, if_neg]
  rintro ⟨_, h⟩
  rw [str_data] at h
  have hx : ∀ x : UInt8, x ^^^ m ≠ x := by
    intro x e
    apply hm
    have := congrArg (fun y => x ^^^ y) e
    simpa [← UInt8.xor_assoc] using this
  by_cases h32 : p < 32
  · rw [List.set_append_left _ _ (by omega), List.drop_left' (by simp [hs]), List.take_left' (by simp [hs])] at h
    have h2 := compl_inj h
    have h3 := congrArg (fun l => l.getD p 0) h2
    simp [List.getD_eq_getElem?_getD, List.getElem?_append_left (show p < s.length by omega), show p < s.length by omega] at h3
    exact hx _ h3.symm
  · rw [List.set_append_right _ _ (by omega), List.drop_left' hs, List.take_left' hs] at h
    have h3 := congrArg (fun l => l.getD (p - s.length) 0) h
    simp [List.getD_eq_getElem?_getD, List.getElem?_append_right (show s.length ≤ p by omega), show p - s.length < (compl s).length by omega] at h3
    exact hx _ h3

theorem bit_byte (n : Nat) : ∃ m : UInt8, (2 : Int) ^ (n % 8) % 256 = (m.toNat : Int) ∧ m ≠ 0 := by
  have h : n % 8 < 8 := Nat.mod_lt _ (by decide)
  have : ∀ k : Fin 8, (2 : Int) ^ k.val % 256 = ((UInt8.ofNat (2 ^ k.val)).toNat : Int) ∧ UInt8.ofNat (2 ^ k.val) ≠ 0 := by decide +kernel
  exact ⟨_, this ⟨n % 8, h⟩⟩

theorem PairBits_walk (s : ByteArray) (_ : s.size ≤ 140737488351232) (at_ : Int) (_ : -9223372036854775808 ≤ at_ ∧ at_ ≤ 9223372036854775807) (w : World) :
    Calls Try.prog 4 #[.string s, .int .i64 at_] w fun e w' => e = .returned (.bool true) ∧ Below w.heap.size w w' := by
  obtain ⟨r, hr, h0, h5⟩ := rem_fin at_ 512 (by decide) (by decide)
  obtain ⟨n, rfl⟩ := Int.eq_ofNat_of_zero_le h0
  obtain ⟨x, hx⟩ : ∃ x, textL s.data.toList 32 = x := ⟨_, rfl⟩
  have hxl : x.length = 32 := by rw [← hx, textL_len]
  obtain ⟨t, ht⟩ : ∃ t, str (x ++ compl x) = t := ⟨_, rfl⟩
  have h1 : putP (str x) = (t, 0) := by unfold putP; rw [if_pos (by rw [str_size, hxl]), str_data, ht]
  have h2 : getP t = (str x, 0) := by
    rw [getP_eq, ← ht, str_data, List.drop_left' hxl, List.take_left' hxl, if_pos ⟨by rw [str_size, List.length_append, hxl]; omega, rfl⟩]
    congr 1
    apply ext_str
    rw [ByteArray.data_extract, Array.toList_extract, str_data, str_data]
    simp [hxl]
  have hz : t.size = 64 := by rw [← ht, str_size, List.length_append, compl_len, hxl]
  obtain ⟨m, hm1, hm2⟩ := bit_byte n
  have hd : t.data.toList = x ++ compl x := by rw [← ht, str_data]
  have h3 := flip_get x hxl (n / 8) (by omega) m hm2
  have HT := Lib.hid (show str (textL s.data.toList (32 : Int).toNat) = str x by rw [← hx]; rfl)
  have H1 := Lib.hid h1
  have H2 := Lib.hid h2
  have H3 := Lib.hid h3
  have HD := Lib.hid hd
  clear h0 hx hxl ht h1 h2 h3 hd hm2
  have kb := fun W => Lib.run_convert_string_bytes (P := Try.prog) W 9 31 5 t Try.underlying9 Try.underlying31 Try.underlying5
  go_enter Try.func4, Try.ntmps4
  go_wp2_with fail
  with_reducible refine (awake2 _).mono ?_
  rintro e w1 ⟨rfl, hb⟩
  have B1 := Lib.hid (hb)
  clear hb
  go_wp2_with fail
  with_reducible refine (text_int _ _ _ (by omega) (by omega)).mono ?_
  rw [HT.out]
  rintro e w2 ⟨rfl, hb⟩
  have B2 := Lib.hid (Bl.then B1.out hb)
  clear hb B1
  go_wp2_with fail
  with_reducible refine (put_any _ _).mono ?_
  rw [H1.out]
  rintro e w3 ⟨rfl, hb⟩
  have B3 := Lib.hid (Bl.then B2.out hb)
  clear hb B2
  go_wp2_with (go_at_call 19; refine (num_any _ _).mono ?_; rintro e w' ⟨rfl, rfl⟩)
  rw [hr]
  have hO := Own.bytes w3 t 5 (by omega)
  rw [hz] at hO
  obtain ⟨hc1, hc2⟩ := hO.caps
  have B4 := Lib.hid (Bl.bytes B3.out 5 t)
  generalize grownCap w3 64 0 5 = cap at *
  generalize Lib.bytesWorld w3 5 t = w4 at *
  generalize hgb : w3.heap.size = gb at *
  have HO := Lib.hid hO
  have hgw : w.heap.size ≤ gb := by rw [← hgb]; exact B3.out.size
  clear hO hgb kb hr B3
  have g1 : w4.cell? ⟨gb, n / 8, none⟩ = some (.int .u8 ((t.data.toList.getD (n / 8) 0).toNat : Int)) := HO.out.at' (byts_at (by rw [data_len]; omega))
  have g2 : w4.frozen? ⟨gb, n / 8, none⟩ = false := HO.out.free (by omega)
  generalize hy : t.data.toList.getD (n / 8) 0 = y at g1
  have HY := Lib.hid hy
  clear hy
  go_region
  have hst := HO.out.stored (n / 8) (.int .u8 (bits .xor .u8 (y.toNat : Int) (m.toNat : Int)))
  have kc := (show Own (w4.setCell ⟨gb, n / 8, none⟩ (.int .u8 (bits .xor .u8 (y.toNat : Int) (m.toNat : Int)))).drew gb 5 1 (.slice (some ⟨gb, 0, none⟩) 64 cap) 64 (byts (t.data.toList.set (n / 8) (y ^^^ m))) from by
    rw [byts_set, ← u8_xor]
    exact hst.1).string (P := Try.prog) Try.underlying31 Try.underlying5 Try.underlying9
  have B5 := Lib.hid ((B4.out.setCell hgw (.int .u8 (bits .xor .u8 (y.toNat : Int) (m.toNat : Int))) (p := ⟨gb, n / 8, none⟩)).drew)
  obtain ⟨z, hz⟩ : ∃ z, str (t.data.toList.set (n / 8) (y ^^^ m)) = z := ⟨_, rfl⟩
  have HZ := Lib.hid (show getP z = (str [], 200) by rw [← hz, ← HY.out, HD.out]; exact H3.out)
  rw [hz] at kc
  have hn := str_nil_tl
  have hxx : ((str x).toList == (str x).toList) = true := by simp
  clear hz hst B4 g1 g2
  go_wp2_with fail
  with_reducible refine (get_any _ _).mono ?_
  rw [show getP z = (str [], 200) from HZ.out]
  rintro e w6 ⟨rfl, hb⟩
  have B6 := Lib.hid (Bl.then B5.out hb)
  clear hb B5
  go_wp2_with fail
  with_reducible refine (get_any _ _).mono ?_
  rw [H2.out]
  rintro e w7 ⟨rfl, hb⟩
  have B7 := Lib.hid (Bl.then B6.out hb)
  clear hb B6
  go_wp2_with (go_at_call 19; refine (num_any _ _).mono ?_; rintro e w' ⟨rfl, rfl⟩)
  go_ret
  exact ⟨rfl, B7.out⟩
end Go.Proofs.Ytohjijhmlfhcnaa
