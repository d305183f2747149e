/- Joined texts: Parse, of any string that can be split.; Plain laws of instructions' texts: no two have the same.; Walks of the statements' own helpers of layer 8: num; works, the chapter's rows.; The reference of layer 8: Bytes.; The reference of layer 8: Read.; The reference of layer 8: Read tells what the program's tells.; The reference of layer 8: Read, of any bytes.; The reference of layer 8: Bytes tells what the program's tells. -/
import Derived.Test.YtfnfcngkaepnjaaGreatDoorQL14
import Derived.Test.YtfnfcngkaepnjaaGreatDoorQL19
import Derived.Test.YtfnfcngkaepnjaaGreatDoorQL17
import Derived.Test.YtfnfcngkaepnjaaGreatDoorQL18
/- Parse, of any string that can be split. -/
namespace Go.Proofs.YtfnfcngkaepnjaaGreatDoor
set_option linter.unusedVariables false
open Go Go.Proofs Go.RowKit

theorem PaI.setErr {w0 : World} {op : Int} {s : Int × Int × Int × Int} {w : World} (h : PaI w0 op s w) : PaI w0 op s (w.setCell ⟨w0.heap.size + 1, 0, none⟩ (.int .i64 0)) :=
  ⟨h.ins.far (by omega), (World.frozen?_setCell ..).trans h.f0, World.cell?_setCell_same _ _ _ h.c1, (World.frozen?_setCell ..).trans h.f1, h.bel.setCell (by simp) _⟩

theorem putN_bd (p : Part) (n : Int) (st : Int × Int × Int × Int) (h : 0 ≤ st.2.2.2 ∧ st.2.2.2 < 4294967296) (hn : 0 ≤ n ∧ n < 4294967296) : 0 ≤ (putN p n st).2.2.2 ∧ (putN p n st).2.2.2 < 4294967296 := by
  unfold putN
  split
  · exact h
  · split
    · exact h
    · split
      · exact h
      · exact hn

set_option maxRecDepth 100000 in
set_option maxHeartbeats 4000000 in
theorem insParse_any (s : ByteArray) (hs : s.size < 4294967281) (w : World) (hE : EnvM w) :
    Calls Tryz.prog 38 #[.string s] w fun e w' => ParsePost s e ∧ Below w.heap.size w w' := by
  have CS := Lib.hid fun W hE => pieces_any s hs W hE
  have HT := Lib.hid (show ∀ op a b c m, IsT s op a b c m → piecesF s = textL op a b c m from fun _ _ _ _ _ => pieces_text)
  have HZ := Lib.hid (pieces_size s)
  have HN := Lib.hid (show (piecesF s).length ≤ 4294967281 by rw [pieces_length]; have := Lib.countB_le ⟨#[32]⟩ (by show 1 ≤ 1; omega) s.size s (Nat.le_refl _); omega)
  obtain ⟨s0, L, hL⟩ := pieces_cons s
  rw [hL] at CS HT HZ HN
  clear hL
  have hmf : ∀ (fn : Fn) (first cap : Array Value) (w : World), (Instr.makeFunc fn first cap).run Tryz.prog w = .ok (.func fn first cap) w := fun _ _ _ _ => rfl
  have hP0 := Lib.hid (fun (h : ∀ op a b c m, ¬ IsT s op a b c m) => show ParsePost s (.returned (parseV 0 0 0 0 0 180)) from Or.inr ⟨h, rfl⟩)
  go_enter_defers Tryz.func38, Tryz.ntmps38
  go_wp2_with fail
  have h0 := Lib.hid (paI_start w)
  have hE0 := Lib.hid (hE.on h0.out.bel)
  clear h0
  refine (CS.out _ hE0.out).mono ?_
  rintro e w1 ⟨rfl, rfl⟩
  simp only [World.size_alloc]
  have h1 := paW_start w (s0 :: L)
  clear hE0 CS
  go_wp2_with fail
  simp only [List.map_cons, List.length_cons] at h1
  generalize World.alloc _ _ = w1 at h1 ⊢
  refine (foundIns_any _ _ s0 L (by have := HN.out; simp at this; omega) w1 h1.wds).mono ?_
  rintro e w2 ⟨hf, hb2⟩
  have h2 := h1.more hb2
  clear hb2 h1
  rcases hf with ⟨o, k, hf, rfl⟩ | ⟨⟨o, k, hf⟩, rfl⟩
  rotate_left
  · go_wp2_with fail
    refine parse_panics w _ _ _ h2.ins 180 _ rfl rfl _ (fun w' hb => ⟨hP0.out ?_, hb⟩)
    intro op a b c m hi
    have h1 := (List.cons.inj (HT.out _ _ _ _ _ hi)).1
    obtain ⟨h3, h4⟩ := right_op hi.right
    exact absurd (hf.name op m h3.1 h3.2 h4 h1).1 (by decide)
  unfold insV
  have HSET := Lib.hid (h2.set o 0 0 0 k)
  have hI := h2.ins.ins
  have f0 := h2.ins.f0
  obtain ⟨i0, i1, i2, i3, i4, j1, j2, j3, j4⟩ := hI
  dsimp only at i1 i2 i3 i4
  clear h2
  have HB := Lib.hid hf
  have hoB := hf.fits rfl
  clear hf
  go_wp2_with fail
  have h3 := HSET.out
  clear HSET i0 i1 i2 i3 i4 j1 j2 j3 j4 f0
  generalize ((((World.setCell _ _ _).setCell _ _).setCell _ _).setCell _ _).setCell _ _ = w3 at h3 ⊢
  refine (named_any _ _).mono ?_
  rintro e w4 ⟨vp, rfl, hb4, hv⟩
  have hl4 := named_short o
  have HPt := Lib.hid (named_parts o)
  have HMk := Lib.hid (named_mark o)
  have HLst := Lib.hid (kind_last o)
  have HF := Lib.hid (fun a b c m (h : rightF o a b c m = true) => foldF_all h)
  have HTX := Lib.hid (show ∀ a b c m, textL o a b c m = insN o m :: (textP ((namedL.lookup o).getD [])).map (partT a b c m) from fun _ _ _ _ => rfl)
  generalize (namedL.lookup o).getD [] = ps at hv hl4 HPt HMk HLst HF HTX
  have CD := Lib.hid (deleteKind_any w3.heap.size vp ps hl4 HLst.out w4 hb4.size hv)
  clear hv
  have H3 := Lib.hid (And.intro h3 hb4)
  clear h3 hb4
  go_wp2_with fail
  refine CD.out.mono ?_
  rintro e w5 ⟨⟨ao, cap, rfl, hPC, hcp⟩, hb5, _⟩
  have h5 := H3.out.1.more (H3.out.2.trans hb5)
  have hlt := textP_le ps
  have HPt' := Lib.hid (fun p (hp : p ∈ textP ps) => HPt.out p (List.mem_filter.1 hp).1)
  clear H3 hb5 CD HPt HMk HLst
  generalize textP ps = tps at hlt HPt' HF HTX hPC hcp ⊢
  have hlt : tps.length ≤ 4 := by omega
  have v0 := h5.wds.var
  have v1 : L.length ≤ 4294967280 := by have := HN.out; simp at this; omega
  simp only [List.length_cons] at v0
  have HO := Lib.hid (show ∀ op a b c m, IsT s op a b c m → op = o ∧ k = (if op = 3 then m else 0) ∧ L = tps.map (partT a b c m) from by
    intro op a b c m hi
    obtain ⟨h3, h4⟩ := right_op hi.right
    have h6 := HT.out _ _ _ _ _ hi
    obtain ⟨_, rfl, hk⟩ := HB.out.name op m h3.1 h3.2 h4 (List.cons.inj h6).1
    rw [HTX.out] at h6
    exact ⟨rfl, hk, (List.cons.inj h6).2⟩)
  have hkb : Hid (0 ≤ k ∧ k < 4294967296) := Lib.hid (by omega)
  clear HT HB HTX hoB
  by_cases hlen : L.length = tps.length
  · have e1 : ((L.length : Int) + 1 == (tps.length : Int) + 1) = true := by rw [hlen]; simp
    go_wp2_with fail
    refine (must_yes _ _).mono ?_
    rintro e w6 ⟨rfl, rfl⟩
    have HLen := Lib.hid hlen
    clear hlen e1 v0
    have hHP := Lib.hid hPC
    clear hPC
    go_wp2_with fail
    go_loopw [29] (fun vi wr => ∃ j : Nat, vi = .int .i64 j ∧ j ≤ tps.length ∧ ∃ st, PaW w o st (s0 :: L) wr ∧ Hid (PartsC wr ao tps) ∧ Hid (0 ≤ st.2.2.2 ∧ st.2.2.2 < 4294967296) ∧ Hid (∀ a b c m, IsT s o a b c m → st = foldF o a b c m (tps.take j)) ∧ Hid (w.heap.size + 1 + 1 + 1 < wr.heap.size)) (fun vi _ => tps.length - (intOf vi).toNat)
    case atStart =>
      refine ⟨0, rfl, by omega, _, h5, hHP, hkb, Lib.hid (fun a b c m hi => ?_), Lib.hid (lt_of_cell h5.wds.var)⟩
      rw [(HO.out _ _ _ _ _ hi).2.1]
      rfl
    case round =>
      obtain ⟨j, rfl, hj, st, hW, hP, hst, hfd, hsz⟩ := hrel
      clear h5 hHP
      by_cases hlt' : j < tps.length
      · obtain ⟨r, rfl, x0, x1, x2, x3⟩ := hP.out j hlt'
        have hp := HPt'.out tps[j] (List.getElem_mem _)
        have htk := Lib.hid (fun a b c m => foldF_take o a b c m tps j hlt')
        have hjL : j < L.length := by rw [HLen.out]; exact hlt'
        have hLj : (s0 :: L)[j + 1]? = some L[j] := by simp
        have hws := HZ.out L[j] (List.mem_cons_of_mem _ (List.getElem_mem _))
        have hwd := Lib.hid (show ∀ a b c m, IsT s o a b c m → L[j] = partT a b c m tps[j] from by
          intro a b c m hi
          have h1 := (HO.out _ _ _ _ _ hi).2.2
          have h2 := congrArg (fun l => l[j]?) h1
          simp only [List.getElem?_map, List.getElem?_eq_getElem hlt', Option.map_some] at h2
          rw [List.getElem?_eq_getElem hjL] at h2
          exact Option.some.inj h2)
        generalize L[j] = word at hLj hws hwd
        generalize hpk : tps[j] = p at x0 x1 x2 x3 hp htk hwd
        obtain ⟨_, ep⟩ := part_enters hp
        have hwx := Lib.hid (show ∀ a b c m, IsT s o a b c m → ∃ x : Nat, x < 4294967296 ∧ getF p a b c m = x ∧ word = p.mark ++ ⟨(Lib.decDigits x).toArray⟩ from by
          intro a b c m hi
          obtain ⟨_, ha, hb, hc⟩ := rightF_bd hi.right
          have h1 := getF_bd p a b c m ⟨by omega, by omega⟩ ⟨by omega, by omega⟩ ⟨by omega, by omega⟩ hi.imm
          exact ⟨(getF p a b c m).toNat, by omega, by omega, hwd.out _ _ _ _ hi⟩)
        clear hwd
        have CN := Lib.hid fun W hE h hK hP => foundNum_any (w.heap.size + 1 + 1 + 1) (w.heap.size + 1 + 1) wr.heap.size (wr.heap.size + 1) j word p.mark (s0 :: L) (by simp; omega) hLj (by omega) W hE h hK hP
        have CP := Lib.hid fun n hn W h => part_put hp w.heap.size o n st hn W h
        have hEr := Lib.hid (hE.env.on hW.ins.bel)
        clear hLj hws hp hjL
        go_wp2_with fail
        have b2 := belA (bel1 (W := wr) (.cells #[.int .i64 j] 3)) (.cells #[.int .i64 p.wide, .string p.mark, .func (.func p.g) #[] #[], .func (.func p.p) #[] #[]] 144)
        have p1 := cell_two wr (.cells #[.int .i64 j] 3) #[.int .i64 p.wide, .string p.mark, .func (.func p.g) #[] #[], .func (.func p.p) #[] #[]] 144 1
        have p3 := cell_two wr (.cells #[.int .i64 j] 3) #[.int .i64 p.wide, .string p.mark, .func (.func p.g) #[] #[], .func (.func p.p) #[] #[]] 144 3
        have q0 := cell_al (cell_new wr #[.int .i64 j] 3 0) (.cells #[.int .i64 p.wide, .string p.mark, .func (.func p.g) #[] #[], .func (.func p.p) #[] #[]] 144)
        have hW := hW.more b2
        have hP := Lib.hid (hP.out.bel b2)
        have hEr := Lib.hid (hEr.out.on b2)
        have hszV : Hid (w.heap.size + 1 + 1 + 1 < ((wr.alloc (.cells #[.int .i64 j] 3)).alloc (.cells #[.int .i64 p.wide, .string p.mark, .func (.func p.g) #[] #[], .func (.func p.p) #[] #[]] 144)).heap.size) := Lib.hid (by have := hsz.out; simp; omega)
        have hsz' := hsz.out
        clear b2 x0 x1 x2 x3
        simp only [List.getElem?_toArray, List.getElem?_cons_succ, List.getElem?_cons_zero] at p1 p3 q0
        generalize World.alloc _ _ = V at p1 p3 q0 hW hP hEr hszV ⊢
        refine (CN.out V hEr.out hW.wds q0 p1).mono ?_
        rintro e w7 ⟨hf, hb7⟩
        have p3 := cell_bel p3 hb7
        have hW := hW.more hb7
        have hP := Lib.hid (hP.out.bel hb7)
        have hsz7 : Hid (w.heap.size + 1 + 1 + 1 < w7.heap.size) := Lib.hid (by have := hszV.out; have := hb7.size; omega)
        clear p1 q0 hEr hszV hb7 CN
        rcases hf with ⟨n, hn, rfl⟩ | ⟨⟨n, hn⟩, rfl⟩
        · have HN' := Lib.hid hn
          have hnb := hn.bd rfl
          have CP := Lib.hid (CP.out n hnb w7 hW.ins.ins)
          clear hn
          go_wp2_with fail
          refine CP.out.mono ?_
          rintro e w8 ⟨rfl, hq, o8, v8, rfl, _⟩
          have h8 := hW.put hq
          have hP8 := Lib.hid (show PartsC (w7.setCell ⟨w.heap.size, o8, none⟩ v8) (some ⟨r, 0, none⟩) tps from hP.out.touch (T := fun b => b = w.heap.size) (Touch.setCell _ _ _ rfl) (hP.out.ne_bare hW.ins.ins))
          have hs8 : Hid (w.heap.size + 1 + 1 + 1 < (w7.setCell ⟨w.heap.size, o8, none⟩ v8).heap.size) := Lib.hid (by have := hsz7.out; simpa using this)
          clear hW hP hq CP hsz7 p3
          generalize World.setCell _ _ _ = w9 at h8 hP8 hs8 ⊢
          go_wp2_with fail
          refine ⟨⟨j + 1, by go_num, by omega, _, h8, hP8, Lib.hid (putN_bd p n st hst.out hnb), Lib.hid (fun a b c m hi => ?_), hs8⟩, by simp [intOf]; omega⟩
          obtain ⟨x, h1, h2, h3⟩ := hwx.out _ _ _ _ hi
          rw [htk.out, ← hfd.out _ _ _ _ hi, h2, (HN'.out.name x h1 h3).2]
        · go_wp2_with fail
          refine parse_panics w _ _ _ hW.ins 180 _ rfl rfl _ (fun w' hb => ⟨hP0.out (fun op a b c m hi => ?_), hb⟩)
          obtain ⟨rfl, _, _⟩ := HO.out _ _ _ _ _ hi
          obtain ⟨x, h1, _, h3⟩ := hwx.out _ _ _ _ hi
          exact absurd (hn.name x h1 h3).1 (by decide)
      · have hj2 : j = tps.length := by omega
        subst hj2
        rw [List.take_length] at hfd
        obtain ⟨s1, s2, s3, s4⟩ := st
        dsimp only at hst
        have HR := Lib.hid (show ∀ a b c m, IsT s o a b c m → (s1, s2, s3, s4) = (a, b, c, m) from fun a b c m hi => (hfd.out _ _ _ _ hi).trans (HF.out _ _ _ _ hi.right))
        clear hP hfd hsz HF hkb
        have hEr := Lib.hid (hE.env.on hW.ins.bel)
        have hI := hW.ins.ins
        obtain ⟨i0, i1, i2, i3, i4, j1, j2, j3, j4⟩ := hI
        dsimp only at i1 i2 i3 i4
        cases hr : rightF o s1 s2 s3 s4 with
        | true =>
          have CT := Lib.hid (insText_yes o s1 s2 s3 s4 hst.out hr wr hEr.out)
          unfold insV at CT
          go_wp2_with fail
          refine CT.out.mono ?_
          rintro e w7 ⟨rfl, hb7⟩
          have h7 := hW.more hb7
          clear hW hb7 CT i0 i1 i2 i3 i4 j1 j2 j3 j4 hEr
          have hX : (⟨(textF o s1 s2 s3 s4).toArray⟩ : ByteArray).data.toList = textF o s1 s2 s3 s4 := by simp
          have HX := Lib.hid (show ∀ a b c m, IsT s o a b c m → (⟨(textF o s1 s2 s3 s4).toArray⟩ : ByteArray) = s from by
            intro a b c m hi
            have h1 := HR.out _ _ _ _ hi
            simp only [Prod.mk.injEq] at h1
            obtain ⟨rfl, rfl, rfl, rfl⟩ := h1
            rw [hi.text])
          have HY := Lib.hid (show (⟨(textF o s1 s2 s3 s4).toArray⟩ : ByteArray) = s → ParsePost s (.returned (parseV o s1 s2 s3 s4 0)) from by
            intro h
            refine Or.inl ⟨o, s1, s2, s3, s4, ⟨hst, hr, ?_⟩, rfl⟩
            rw [← h, hX])
          clear hX hst hr HR
          generalize (⟨(textF o s1 s2 s3 s4).toArray⟩ : ByteArray) = X at HX HY ⊢
          by_cases hxs : X = s
          · have e2 : (X.toList == s.toList) = true := by rw [hxs]; simp
            have HY := Lib.hid (HY.out hxs)
            clear HX hxs
            go_wp2_with fail
            refine (must_yes _ _).mono ?_
            rintro e w8 ⟨rfl, rfl⟩
            have h9 := Lib.hid (h7.ins.set o s1 s2 s3 s4).setErr
            obtain ⟨⟨i0, i1, i2, i3, i4, j1, j2, j3, j4⟩, f0, c1, f1, _⟩ := h7.ins
            dsimp only at i1 i2 i3 i4
            clear h7
            go_wp2_with fail
            have h10 := h9.out
            clear h9 i0 i1 i2 i3 i4 j1 j2 j3 j4 f0 c1 f1
            generalize World.setCell _ _ _ = W5 at h10 ⊢
            exact parse_returns w o (s1, s2, s3, s4) W5 h10 _ rfl rfl _ ⟨HY.out, h10.bel⟩
          · have e2 : (X.toList == s.toList) = false := by
              rw [beq_eq_false_iff_ne]
              intro e
              rw [toList_data, toList_data] at e
              exact hxs (ByteArray.ext (Array.toList_inj.1 e))
            go_wp2_with fail
            refine (must_no _ _).mono ?_
            rintro e w8 ⟨rfl, rfl⟩
            go_wp2_with fail
            refine parse_panics w _ _ _ h7.ins 180 _ rfl rfl _ (fun w' hb => ⟨hP0.out (fun op a b c m hi => ?_), hb⟩)
            obtain ⟨rfl, _, _⟩ := HO.out _ _ _ _ _ hi
            exact hxs (HX.out _ _ _ _ hi)
        | false =>
          have CT := Lib.hid (insText_no o s1 s2 s3 s4 hst.out hr wr)
          unfold insV at CT
          go_wp2_with fail
          refine CT.out.mono ?_
          rintro e w7 ⟨rfl, hb7⟩
          have h7 := hW.more hb7
          clear hW hb7 CT i0 i1 i2 i3 i4 j1 j2 j3 j4 hEr
          go_wp2_with fail
          refine (must_no _ _).mono ?_
          rintro e w8 ⟨rfl, rfl⟩
          go_wp2_with fail
          refine parse_panics w _ _ _ h7.ins 180 _ rfl rfl _ (fun w' hb => ⟨hP0.out (fun op a b c m hi => ?_), hb⟩)
          obtain ⟨rfl, _, _⟩ := HO.out _ _ _ _ _ hi
          have h1 := HR.out _ _ _ _ hi
          simp only [Prod.mk.injEq] at h1
          obtain ⟨rfl, rfl, rfl, rfl⟩ := h1
          exact absurd hi.right (by rw [hr]; decide)
  · have e1 : ((L.length : Int) + 1 == (tps.length : Int) + 1) = false := beq_eq_false_iff_ne.2 (by omega)
    go_wp2_with fail
    refine (must_no _ _).mono ?_
    rintro e w6 ⟨rfl, rfl⟩
    go_wp2_with fail
    refine parse_panics w _ _ _ h5.ins 180 _ rfl rfl _ (fun w' hb => ⟨hP0.out (fun op a b c m hi => hlen ?_), hb⟩)
    rw [(HO.out _ _ _ _ _ hi).2.2, List.length_map]
end Go.Proofs.YtfnfcngkaepnjaaGreatDoor

/- Plain laws of instructions' texts: no two have the same. -/
namespace Go.Proofs.YtfnfcngkaepnjaaGreatDoor
set_option linter.unusedVariables false
open Go Go.Proofs Go.RowKit

theorem begP_ex (s : ByteArray) : ∃ o k f, BegP s o k f := by
  by_cases h : ∃ j : Nat, j < 12 ∧ kindN j = s
  · obtain ⟨j, hj, rfl⟩ := h
    exact ⟨_, _, _, begP_kind j hj⟩
  · exact ⟨_, _, _, begP_word s (fun j hj e => h ⟨j, hj, e⟩)⟩

theorem dec_inj32 {a b : Nat} (ha : a < 4294967296) (h : Lib.decDigits a = Lib.decDigits b) (hb : b < 4294967296) : a = b := by
  have h1 := puG_dec 4294967295 a (by omega)
  have h2 := puG_dec 4294967295 b (by omega)
  rw [h, h2] at h1
  exact (Option.some.inj h1).symm

theorem partT_inj {a b c m a' b' c' m' : Int} {p : Part} (h : partT a b c m p = partT a' b' c' m' p) (h1 : 0 ≤ getF p a b c m ∧ getF p a b c m < 4294967296) (h2 : 0 ≤ getF p a' b' c' m' ∧ getF p a' b' c' m' < 4294967296) : getF p a b c m = getF p a' b' c' m' := by
  unfold partT at h
  have h3 := congrArg (fun x : ByteArray => x.data.toList) h
  simp only [ByteArray.data_append, Array.toList_append] at h3
  have h4 := List.append_cancel_left h3
  have := dec_inj32 (by omega) h4 (by omega)
  omega

theorem fold_same {a b c m a' b' c' m' : Int} : ∀ (ps : List Part) (st : Int × Int × Int × Int), (∀ p ∈ ps, getF p a b c m = getF p a' b' c' m') → ps.foldl (fun s p => putF p (a, b, c, m) s) st = ps.foldl (fun s p => putF p (a', b', c', m') s) st
  | [], _, _ => rfl
  | p :: ps, st, h => by
    simp only [List.foldl_cons]
    rw [putF_N, putF_N, h p (.head _)]
    exact fold_same ps _ (fun q hq => h q (.tail _ hq))

theorem map_at {α β : Type} {f g : α → β} : ∀ {l : List α}, l.map f = l.map g → ∀ x ∈ l, f x = g x
  | [], _, x, hx => by cases hx
  | y :: l, h, x, hx => by
    simp only [List.map_cons, List.cons.injEq] at h
    rcases List.mem_cons.1 hx with rfl | hx
    · exact h.1
    · exact map_at h.2 x hx

theorem isT_inj {s : ByteArray} {op a b c m op' a' b' c' m' : Int} (h : IsT s op a b c m) (h' : IsT s op' a' b' c' m') : op = op' ∧ a = a' ∧ b = b' ∧ c = c' ∧ m = m' := by
  have h1 := (pieces_text h).symm.trans (pieces_text h')
  unfold textL at h1
  obtain ⟨h2, h3⟩ := List.cons.inj h1
  obtain ⟨o, k, f, hb⟩ := begP_ex (insN op m)
  obtain ⟨g1, g2⟩ := right_op h.right
  obtain ⟨g1', g2'⟩ := right_op h'.right
  obtain ⟨_, r2, r3⟩ := hb.name op m g1.1 g1.2 g2 rfl
  obtain ⟨_, r2', r3'⟩ := hb.name op' m' g1'.1 g1'.2 g2' h2
  have ho : op = op' := r2.symm.trans r2'
  subst ho
  obtain ⟨_, ha, hb, hc⟩ := rightF_bd h.right
  obtain ⟨_, ha', hb', hc'⟩ := rightF_bd h'.right
  have hg := map_at h3
  have hg2 : ∀ p ∈ textP ((namedL.lookup op).getD []), getF p a b c m = getF p a' b' c' m' := fun p hp => partT_inj (hg p hp) (getF_bd p a b c m ⟨by omega, by omega⟩ ⟨by omega, by omega⟩ ⟨by omega, by omega⟩ h.imm) (getF_bd p a' b' c' m' ⟨by omega, by omega⟩ ⟨by omega, by omega⟩ ⟨by omega, by omega⟩ h'.imm)
  have f1 := foldF_all h.right
  have f2 := foldF_all h'.right
  unfold foldF at f1 f2
  rw [fold_same _ _ hg2, ← r3, r3', f2] at f1
  simp only [Prod.mk.injEq] at f1
  obtain ⟨rfl, rfl, rfl, rfl⟩ := f1
  exact ⟨rfl, rfl, rfl, rfl, rfl⟩

end Go.Proofs.YtfnfcngkaepnjaaGreatDoor

/- Walks of the statements' own helpers of layer 8: num; works, the chapter's rows. -/
namespace Go.Proofs.YtfnfcngkaepnjaaGreatDoor
set_option linter.unusedVariables false
open Go Go.Proofs Go.RowKit

theorem dec1 : Lib.decDigits 1 = [49] := by simp [Lib.decDigits]
theorem partT_of {a b c m : Int} {p : Part} {n : Nat} {l : List UInt8} (hg : (getF p a b c m).toNat = n) (hd : Lib.decDigits n = l) : partT a b c m p = p.mark ++ ⟨l.toArray⟩ := by
  unfold partT
  rw [hg, hd]

end Go.Proofs.YtfnfcngkaepnjaaGreatDoor

/- The reference of layer 8: Bytes. -/
namespace Go.Proofs.YtfnfcngkaepnjaaGreatDoor
set_option linter.unusedVariables false
open Go Go.Proofs Go.RowKit

/- CLASSES -/
end Go.Proofs.YtfnfcngkaepnjaaGreatDoor

/- The reference of layer 8: Read. -/
namespace Go.Proofs.YtfnfcngkaepnjaaGreatDoor
set_option linter.unusedVariables false
open Go Go.Proofs Go.RowKit

end Go.Proofs.YtfnfcngkaepnjaaGreatDoor

/- The reference of layer 8: Read tells what the program's tells. -/
namespace Go.Proofs.YtfnfcngkaepnjaaGreatDoor
set_option linter.unusedVariables false
set_option linter.unusedSimpArgs false
open Go Go.Proofs Go.RowKit

end Go.Proofs.YtfnfcngkaepnjaaGreatDoor

/- The reference of layer 8: Read, of any bytes. -/
namespace Go.Proofs.YtfnfcngkaepnjaaGreatDoor
set_option linter.unusedVariables false
open Go Go.Proofs Go.RowKit

end Go.Proofs.YtfnfcngkaepnjaaGreatDoor

/- The reference of layer 8: Bytes tells what the program's tells. -/
namespace Go.Proofs.YtfnfcngkaepnjaaGreatDoor
set_option linter.unusedVariables false
set_option linter.unusedSimpArgs false
open Go Go.Proofs Go.RowKit

/-- The reference's Right is the program's. -/
theorem rRight_F (op a b c m : Int) (hm : 0 ≤ m ∧ m < 4294967296) (w : World) :
    Calls Tryz.prog 46 #[insV op a b c m] w fun e w' => e = .returned (.bool (rightF op a b c m)) ∧ Below w.heap.size w w' := by
  have := rRight_any op a b c m hm w
  rwa [rightR_F op a b c m hm.1] at this
end Go.Proofs.YtfnfcngkaepnjaaGreatDoor
