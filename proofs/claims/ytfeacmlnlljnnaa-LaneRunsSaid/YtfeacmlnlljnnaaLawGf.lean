/- Statements of layer 7: what follows a deed's own part. -/
import Derived.Test.YtfeacmlnlljnnaaLawGa
namespace Go.Proofs.Ytfeacmlnlljnnaa
open Go Go.Proofs Go.RowKit

set_option maxRecDepth 100000 in
set_option maxHeartbeats 1500000 in
theorem after7 (c : Col) (w : World) (N Y d l pk : Nat) (dsv : Value) (ds : List Deed) (dd : Deed) (av ov : Value) (k n : Nat) (dn an : Bool) (w7 : World) (hfn : Y < N) (hn60 : n ≤ 1000) (hmask : dd.mask < 18446744073709551616)
    (hmid : Mid7 c w N Y d l pk dsv ds dd av ov k n dn an w7) (t0 t1 t2 t5 t11 t13 t14 t15 t16 t17 t18 t19 t20 t21 t22 t23 t24 t25 t26 t27 t28 t29 t30 t31 t32 t33 t34 t35 t36 t37 t38 t39 t40 t41 t42 t43 t44 t45 t46 t47 t48 t49 t50 t51 t52 t53 t54 t55 t56 t57 t58 t59 t60 t61 t62 t63 t64 t65 t66 t67 t68 t69 t70 t71 t72 t73 t74 t75 t76 t77 t78 t79 t80 t81 t82 t83 t84 t85 t86 t87 t88 t89 t90 t91 t92 t93 t94 t95 t96 t97 t98 t99 t100 t101 t102 t103 t104 t105 t106 t107 t108 t109 t110 t111 t112 t113 t114 t115 t116 t117 t118 t119 t120 t121 t122 t123 t124 t125 t126 t127 t128 t129 t130 t131 t132 t133 t134 t135 t136 t137 t138 t139 t140 t141 t142 t143 t144 t145 t146 t147 t148 t149 t150 t151 t152 t153 t154 t155 t156 t157 t158 t159 t160 t161 t162 t163 t164 t165 t166 t167 t168 t169 t170 t171 t172 t173 t174 t175 t176 t177 t178 t179 t180 t181 t182 t183 t184 t185 t186 t187 t188 t189 t190 t191 t192 t193 t194 t195 t196 t197 t198 t199 t200 t201 t202 t203 t204 t205 t206 t207 t208 t209 t210 t211 t212 t213 t214 t215 t216 t217 t218 t219 t220 t221 t222 t223 t224 t225 t226 t227 t228 t229 t230 t231 t232 t233 t234 t235 t236 t237 t238 t239 t240 t241 t242 t243 t244 t245 t246 : Value) (K : Act → World → Prop) (Q : Exit → Act → World → Prop) (hQp : ∀ (x : List PanicEntry) (a : Act) (t : Option Tmp) (v : Value) (w : World), Q (.panic x) (a.put t v) w → Q (.panic x) a w)
    (hK : ∀ (l2 k2 : Nat) (av2 : Value) (s2 s22 s23 s24 s25 s176 s177 s178 s179 s180 s181 s182 s183 s184 s185 s186 s187 s188 s189 s190 s191 s192 s193 s194 s195 s196 s197 s198 s199 s200 s201 s202 s203 s204 s205 s206 s207 s208 s209 s210 s211 s212 s213 s214 s215 s216 s217 s218 s219 s220 s221 s222 s223 s224 s225 s226 s227 s228 s229 s230 s231 s232 s233 s234 s235 s236 s237 s238 s239 s240 s241 s242 s243 s244 s245 : Value) (w' : World), Rel7 c w N Y d l2 dsv ds av2 k2 (n + 1) w' → K { tmps := #[t0, t1, s2, .pointer (some ⟨d, 0, none⟩), .pointer (some ⟨l2, 0, none⟩), t5, av2, .int .i64 (k2 : Int), ov, .bool false, .bool false, t11, .pointer (some ⟨pk, 0, none⟩), t13, t14, t15, t16, t17, t18, t19, t20, t21, s22, s23, s24, s25, t26, t27, t28, t29, t30, t31, t32, t33, t34, t35, t36, t37, t38, t39, t40, t41, t42, t43, t44, t45, t46, t47, t48, t49, t50, t51, t52, t53, t54, t55, t56, t57, t58, t59, t60, t61, t62, t63, t64, t65, t66, t67, t68, t69, t70, t71, t72, t73, t74, t75, t76, t77, t78, t79, t80, t81, t82, t83, t84, t85, t86, t87, t88, t89, t90, t91, t92, t93, t94, t95, t96, t97, t98, t99, t100, t101, t102, t103, t104, t105, t106, t107, t108, t109, t110, t111, t112, t113, t114, t115, t116, t117, t118, t119, t120, t121, t122, t123, t124, t125, t126, t127, t128, t129, t130, t131, t132, t133, t134, t135, t136, t137, t138, t139, t140, t141, t142, t143, t144, t145, t146, t147, t148, t149, t150, t151, t152, t153, t154, t155, t156, t157, t158, t159, t160, t161, t162, t163, t164, t165, t166, t167, t168, t169, t170, t171, t172, t173, t174, t175, s176, s177, s178, s179, s180, s181, s182, s183, s184, s185, s186, s187, s188, s189, s190, s191, s192, s193, s194, s195, s196, s197, s198, s199, s200, s201, s202, s203, s204, s205, s206, s207, s208, s209, s210, s211, s212, s213, s214, s215, s216, s217, s218, s219, s220, s221, s222, s223, s224, s225, s226, s227, s228, s229, s230, s231, s232, s233, s234, s235, s236, s237, s238, s239, s240, s241, s242, s243, s244, s245, t246], defers := [] } w') :
    Code.wp Try.prog code7b (Exit.then K Q) { tmps := #[t0, t1, t2, .pointer (some ⟨d, 0, none⟩), .pointer (some ⟨l, 0, none⟩), t5, av, .int .i64 (k : Int), ov, .bool dn, .bool an, t11, .pointer (some ⟨pk, 0, none⟩), t13, t14, t15, t16, t17, t18, t19, t20, t21, t22, t23, t24, t25, t26, t27, t28, t29, t30, t31, t32, t33, t34, t35, t36, t37, t38, t39, t40, t41, t42, t43, t44, t45, t46, t47, t48, t49, t50, t51, t52, t53, t54, t55, t56, t57, t58, t59, t60, t61, t62, t63, t64, t65, t66, t67, t68, t69, t70, t71, t72, t73, t74, t75, t76, t77, t78, t79, t80, t81, t82, t83, t84, t85, t86, t87, t88, t89, t90, t91, t92, t93, t94, t95, t96, t97, t98, t99, t100, t101, t102, t103, t104, t105, t106, t107, t108, t109, t110, t111, t112, t113, t114, t115, t116, t117, t118, t119, t120, t121, t122, t123, t124, t125, t126, t127, t128, t129, t130, t131, t132, t133, t134, t135, t136, t137, t138, t139, t140, t141, t142, t143, t144, t145, t146, t147, t148, t149, t150, t151, t152, t153, t154, t155, t156, t157, t158, t159, t160, t161, t162, t163, t164, t165, t166, t167, t168, t169, t170, t171, t172, t173, t174, t175, t176, t177, t178, t179, t180, t181, t182, t183, t184, t185, t186, t187, t188, t189, t190, t191, t192, t193, t194, t195, t196, t197, t198, t199, t200, t201, t202, t203, t204, t205, t206, t207, t208, t209, t210, t211, t212, t213, t214, t215, t216, t217, t218, t219, t220, t221, t222, t223, t224, t225, t226, t227, t228, t229, t230, t231, t232, t233, t234, t235, t236, t237, t238, t239, t240, t241, t242, t243, t244, t245, t246], defers := [] } w7 := by
  obtain ⟨c7, Z, D, L, rs, hZ, hat, hcase⟩ := hmid
  obtain ⟨ap, acap, hu6, hac, hac2⟩ := hat.recs.form
  subst hu6
  have hLb : L.b = encs rs ∧ L.b.length ≤ 14336 ∧ (∀ x ∈ rs, x.Ok) ∧ k ≤ rs.length := by
    rcases hcase with ⟨_, _, h⟩ | ⟨_, os, h, _⟩
    · exact ⟨h.inv.b, h.inv.wf.b, h.inv.ok, h.inv.le⟩
    · exact ⟨h.b, h.wf.b, h.ok, h.le⟩
  obtain ⟨hb1, hb2, hb3, hkle⟩ := hLb
  obtain ⟨A, hA⟩ : ∃ A, A = (encs rs).length := ⟨_, rfl⟩
  rw [hb1, ← hA] at hb2
  have hcnt : rs.length ≤ 14336 := by have := encs_count rs; omega
  have hlen := len_in c7 w7 Z l d L hat.lane
  have hroom := room_in c7 w7 Z l d L hat.lane
  rw [hb1, ← hA] at hlen hroom
  have hsz := size_in c7 w7 (N + 1) _ rs hat.recs hb3 (by omega)
  rw [← hA] at hsz
  have HLEN := Lib.hid hlen
  have HROOM := Lib.hid hroom
  have HSZ := Lib.hid hsz
  have HAT := Lib.hid hat
  have HK := Lib.hid hK
  have HB3 := Lib.hid hb3
  have HB1 := Lib.hid hb1
  have HAA := Lib.hid hA
  have HCASE := Lib.hid hcase
  have HMASK := Lib.hid hmask
  clear hlen hroom hsz hat hK hb3 hb1 hA hcase hmask
  unfold code7b code7 Try.f3
  dsimp only [codeL, codeR, codeB, codeO, codeS]
  go_upto_region 51 with (first
    | (go_at_call 23; refine (HLEN.out).mono ?_; rintro e w8 ⟨rfl, rfl⟩; clear HLEN)
    | (go_at_call 15; refine (HSZ.out).mono ?_; rintro e w9 ⟨rfl, c9, hE⟩; have HAT9 := Lib.hid ((HAT.out).quiet hE); have X9 := Lib.hid hE; have hroom := room_in c9 w9 Z l d L (HAT9.out).lane; rw [HB1.out, ← HAA.out] at hroom; have hsz2 := size_in c9 w9 (N + 1) _ rs (HAT9.out).recs HB3.out (by rw [← HAA.out]; omega); rw [← HAA.out] at hsz2; have HSZ2 := Lib.hid hsz2; have HROOM2 := Lib.hid hroom; clear hE hsz2 hroom HSZ HAT HROOM)
    | (go_at_call 24; refine (HROOM2.out).mono ?_; rintro e w10 ⟨rfl, rfl⟩; clear HROOM2)
    | (go_at_call 15; refine (HSZ2.out).mono ?_; rintro e w11 ⟨rfl, c11, hE⟩; have HAT11 := Lib.hid ((HAT9.out).quiet hE); have X11 := Lib.hid ((X9.out).trans hE); clear hE HSZ2 HAT9))
  rcases HCASE.out with ⟨rfl, rfl, hok⟩ | ⟨rfl, os, hdown, hos⟩
  · have HOK := Lib.hid hok
    clear hok HCASE
    go_wp2_with fail
    have h := HAT11.out
    exact HK.out _ _ _ _ _ _ _ _ _ _ _ _ _ _ _ _ _ _ _ _ _ _ _ _ _ _ _ _ _ _ _ _ _ _ _ _ _ _ _ _ _ _ _ _ _ _ _ _ _ _ _ _ _ _ _ _ _ _ _ _ _ _ _ _ _ _ _ _ _ _ _ _ _ _ _ _ _ _ _ ⟨c11, Z, D, L, rs, hZ, h.disk, h.lane, h.recs, h.deeds, h.ext, HOK.out⟩
  · clear HCASE
    have hat := HAT11.out
    have hoscase : an = true → Recs c11 w11 (N + 1) ov os := fun h => (hos h).keep X11.out (fun q h => by simp [Obs] at h)
    have harm := arm_in c11 w11 N d D 0 0 (by omega) (by omega) hat.disk (by rw [hdown.dn]; omega)
    have HARM := Lib.hid harm
    have HDN := Lib.hid hdown
    have HOS := Lib.hid hoscase
    clear hat harm hdown hos hoscase
    go_upto_region 53 with (go_at_call 22; refine (HARM.out).mono ?_; rintro e w12 ⟨c12, rfl, hD, hE⟩; have HAT12 := Lib.hid ((HAT11.out).did hZ hfn hD hE); have HOS12 : Hid (an = true → Recs c12 w12 (N + 1) ov os) := Lib.hid (fun h => (HOS.out h).keep hE (fun q h => by simp [Obs] at h)); clear hD hE HARM HAT11 HOS)
    have hat := HAT12.out
    have k10 : w12.cell? ⟨pk, 10, none⟩ = some (.int .u64 (dd.mask : Int)) := (hat.box.cell 10).trans rfl
    have hcr := crash_in c12 w12 N d (D.arm 0 0) dd.mask HMASK.out hat.disk (fun r hr => by have h1 : (D.arm 0 0).n = 1 := (HDN.out).dn; have hr0 : r = 0 := (by omega); rw [hr0]; exact (HDN.out).waits)
    have HCR := Lib.hid hcr
    clear hat hcr
    go_upto_region 54 with (go_at_call 19; refine (HCR.out).mono ?_; rintro e w13 ⟨c13, rfl, hD, hE⟩; have HAT13 := Lib.hid ((HAT12.out).did hZ hfn hD hE); have HOS13 : Hid (an = true → Recs c13 w13 (N + 1) ov os) := Lib.hid (fun h => (HOS12.out h).keep hE (fun q h => by simp [Obs] at h)); clear hD hE HCR HAT12 HOS12)
    clear k10
    obtain ⟨gen, bank, got, rest, hg1, hg2, hbk, pre, o2, o3, hcase2⟩ := ((HDN.out).arm 0 0).open_ hn60 (mbits dd.mask)
    have hgok := pre.ok
    have hgl : got.length ≤ 14336 := Nat.le_trans (encs_count got) pre.len
    obtain ⟨Z2, hZ2, hf2⟩ := big_col c13 w13 (N + 2)
    have hdn : ((D.arm 0 0).crash (mbits dd.mask)).n = 1 ∧ ((D.arm 0 0).crash (mbits dd.mask)).size = 538 := ⟨(HDN.out).dn, (HDN.out).size⟩
    have hop := open_in c13 w13 N Z2 (N + 1) d ((D.arm 0 0).crash (mbits dd.mask)) 0 gen bank got rest (by omega) (by omega) (by omega) (HAT13.out).disk (by rw [hdn.1]; omega) (by omega) (by rw [hdn.2]; omega) (by rw [crash_waits]; exact Nat.zero_le _) hg1 hg2 hbk pre.n4 pre.n1 pre.st pre.ok pre.short pre.len pre.rl
    have HOP := Lib.hid hop
    have O2 := Lib.hid o2
    have O3 := Lib.hid o3
    have HGOK := Lib.hid hgok
    have HC2 := Lib.hid hcase2
    clear hop hf2 o2 o3 pre hgok hcase2 hdn hg1 hg2 hbk
    go_upto_region 55 with (go_at_call 20; refine (HOP.out).mono ?_; intro e w14 hq; obtain ⟨c14, l9, v9, rfl, hD, hL, hN, hE⟩ := opened_ok hq O2.out; have HN14 := Lib.hid hN; have HAT14 := Lib.hid (((HAT13.out).did hZ hfn hD hE).lane2 hL); have HOS14 : Hid (an = true → Recs c14 w14 (N + 1) ov os) := Lib.hid (fun h => (HOS13.out h).keep hE (fun q h => by simp [Obs] at h)); clear hq hD hL hN hE HOP HAT13 HOS13)
    obtain ⟨p9, cap9, rfl, hc9, hm9⟩ := (HN14.out).form
    have hpl : (places gen 0 got).length = got.length := places_len _ _ _
    have hed : ∀ e ∈ places gen 0 got, e.2.dirty.length ≤ 1000 := fun e he => by
      have h1 : e.2 ∈ (places gen 0 got).map Prod.snd := List.mem_map.2 ⟨e, he, rfl⟩
      rw [places_snd] at h1
      exact dirt_ok HGOK.out e.2 h1
    have hst := starts_in c14 w14 (N + 1) (N + 1) _ _ _ rs HN14.out (HAT14.out).recs hed (dirt_ok HB3.out) (by rw [hpl]; omega)
    have HN14b := HN14.out
    rw [hpl] at hst hc9 HN14b ⊢
    have HST := Lib.hid hst
    have HED := Lib.hid hed
    have HN := Lib.hid HN14b
    obtain ⟨G, hG⟩ : ∃ G, G = got.length := ⟨_, rfl⟩
    have HGG := Lib.hid hG
    clear hst hed hpl HN14b HN14
    by_cases hwas : Starts (places gen 0 got) rs ∧ k ≤ got.length
    · have HWAS := Lib.hid hwas.1
      have hGr : got.length ≤ rs.length := by
        have := hwas.1.1
        rw [places_len] at this; exact this
      have hkG := hwas.2
      have hka : got.length ≤ acap := by omega
      clear hwas
      go_upto_region 60 with (go_at_call 21; refine (HST.out).mono ?_; rintro e w15 ⟨bb, rfl, hb, c15, hE⟩; (obtain rfl : bb = true := hb.2 HWAS.out); have HAT15 := Lib.hid ((HAT14.out).quiet hE); clear hb hE HST HAT14)
      refine X_begin [] [] (fun _ => True) (by kernel_rfl) ?_
      refine X_pure 0 rfl (by kernel_rfl) (by kernel_rfl) (by kernel_rfl) (by kernel_rfl) (fun c a w h => hQp c a _ _ w h) rfl (by intro w; go_simp; first | done | with_reducible rfl) ?_
      try simp only [Act.put, List.setIfInBounds_toArray, List.set_cons_zero, List.set_cons_succ]
      refine X_pure 1 rfl (by kernel_rfl) (by kernel_rfl) (by kernel_rfl) (by kernel_rfl) (fun c a w h => hQp c a _ _ w h) rfl (by intro w; go_simp; first | done | with_reducible rfl) ?_
      try simp only [Act.put, List.setIfInBounds_toArray, List.set_cons_zero, List.set_cons_succ]
      refine X_pure 2 rfl (by kernel_rfl) (by kernel_rfl) (by kernel_rfl) (by kernel_rfl) (fun c a w h => hQp c a _ _ w h) rfl (by intro w; go_simp; first | done | with_reducible rfl) ?_
      try simp only [Act.put, List.setIfInBounds_toArray, List.set_cons_zero, List.set_cons_succ]
      refine X_pure 3 rfl (by kernel_rfl) (by kernel_rfl) (by kernel_rfl) (by kernel_rfl) (fun c a w h => hQp c a _ _ w h) rfl (by intro w; go_simp; first | done | with_reducible rfl) ?_
      try simp only [Act.put, List.setIfInBounds_toArray, List.set_cons_zero, List.set_cons_succ]
      refine X_pure 4 rfl (by kernel_rfl) (by kernel_rfl) (by kernel_rfl) (by kernel_rfl) (fun c a w h => hQp c a _ _ w h) rfl (by intro w; go_simp; first | done | with_reducible rfl) ?_
      try simp only [Act.put, List.setIfInBounds_toArray, List.set_cons_zero, List.set_cons_succ]
      refine X_pure 5 rfl (by kernel_rfl) (by kernel_rfl) (by kernel_rfl) (by kernel_rfl) (fun c a w h => hQp c a _ _ w h) rfl (by intro w; go_simp; first | done | with_reducible rfl) ?_
      try simp only [Act.put, List.setIfInBounds_toArray, List.set_cons_zero, List.set_cons_succ]
      refine X_pure 6 rfl (by kernel_rfl) (by kernel_rfl) (by kernel_rfl) (by kernel_rfl) (fun c a w h => hQp c a _ _ w h) rfl (by intro w; go_simp; first | done | with_reducible rfl) ?_
      try simp only [Act.put, List.setIfInBounds_toArray, List.set_cons_zero, List.set_cons_succ]
      refine X_pure 7 rfl (by kernel_rfl) (by kernel_rfl) (by kernel_rfl) (by kernel_rfl) (fun c a w h => hQp c a _ _ w h) rfl (by intro w; go_simp; first | done | with_reducible rfl) ?_
      try simp only [Act.put, List.setIfInBounds_toArray, List.set_cons_zero, List.set_cons_succ]
      refine X_pure 8 rfl (by kernel_rfl) (by kernel_rfl) (by kernel_rfl) (by kernel_rfl) (fun c a w h => hQp c a _ _ w h) rfl (by intro w; go_simp; first | done | with_reducible rfl) ?_
      try simp only [Act.put, List.setIfInBounds_toArray, List.set_cons_zero, List.set_cons_succ]
      refine X_done (by kernel_rfl) ?_ _
      go_wp2_with fail
      have h16 := (HAT15.out).quiet (Ext.refl (Obs []) c15 w15).drew
      have htk := h16.recs.take got.length hGr
      rw [← starts_eq HWAS.out] at htk
      exact HK.out _ _ _ _ _ _ _ _ _ _ _ _ _ _ _ _ _ _ _ _ _ _ _ _ _ _ _ _ _ _ _ _ _ _ _ _ _ _ _ _ _ _ _ _ _ _ _ _ _ _ _ _ _ _ _ _ _ _ _ _ _ _ _ _ _ _ _ _ _ _ _ _ _ _ _ _ _ _ _ ⟨c15, Z2, _, _, got, by omega, h16.disk, h16.lane, htk, h16.deeds, h16.ext, O3.out⟩
    · have hother : an = true ∧ got = os := by
        rcases HC2.out with ⟨j, h1, h2, h3⟩ | h
        · exfalso
          refine hwas ⟨?_, ?_⟩
          · rw [h3]; exact (starts_take gen 0 rs j h2).1
          · rw [h3, List.length_take]; omega
        · exact h
      obtain ⟨hx1, hx2⟩ := hother
      subst hx1
      have hor := HOS14.out rfl
      rw [hx2.symm] at hor
      obtain ⟨op, ocap, rfl, hoc, hom⟩ := hor.form
      have hsg := (starts_take gen 0 got got.length (Nat.le_refl _)).1
      rw [take_self] at hsg
      have HSG := Lib.hid hsg
      have HOR := Lib.hid hor
      clear hor hsg HC2 HOS14 hx2
      obtain ⟨ir, hir, hr1, hr2, hr3⟩ := info_parts info_rec
      by_cases hs : Starts (places gen 0 got) rs
      · have hkl : ¬ k ≤ got.length := fun h => hwas ⟨hs, h⟩
        have HS := Lib.hid hs
        clear hs hwas
        go_upto_region 59 with (first
          | (go_at_call 21; refine (HST.out).mono ?_; rintro e w15 ⟨bb, rfl, hb, c15, hE⟩; (obtain rfl : bb = true := hb.2 HS.out); have HAT15 := Lib.hid ((HAT14.out).quiet hE); have HOR15 := Lib.hid ((HOR.out).keep hE (fun q h => by simp [Obs] at h)); have hst2 := starts_in c15 w15 (N + 1) (N + 1) _ _ _ got ((HN.out).keep hE (fun q h => by simp [Obs] at h)) HOR15.out HED.out (dirt_ok HGOK.out) (by rw [places_len]; omega); have HST2 := Lib.hid hst2; clear hb hE hst2 HST HAT14 HOR)
          | (go_at_call 21; refine (HST2.out).mono ?_; rintro e w16 ⟨bb, rfl, hb, c16, hE⟩; (obtain rfl : bb = true := hb.2 HSG.out); have HAT16 := Lib.hid ((HAT15.out).quiet hE); have HOR16 := Lib.hid ((HOR15.out).keep hE (fun q h => by simp [Obs] at h)); obtain ⟨ps, hps, hsrc, hdirt⟩ := (HOR16.out).src; have HSRC := Lib.hid hsrc; have HPS := Lib.hid hps; have HDI := Lib.hid hdirt; clear hb hE HST2 HAT15 HOR15 hsrc hps hdirt))
        go_upto_region 60 with (at_builtin; go_must (refine append_sl (o := ⟨some 236, _, _, _, _, _⟩) rfl (.const (.slice none 0 0)) (.tmp 235) 34 34 rfl 33 ir _ 8 104 Try.underlying34 hir hr1 hr2 hr3 (by rfl) c16 (N + 1, 0) (.slice none 0 0) 0 [] rfl (Sl.nil _ _ _ _) (.slice op got.length ocap) rfl got.length (ps.flatMap fun p => recCells p.1 p.2) HSRC.out (by unfold maxLen; omega) (by omega) ?_); intro v17 w17 c17 hSl hE; have hE0 := own_nil _ hE; have hR17 := Recs.mk' (q := 0) HPS.out hSl (fun p hp => Rs.keep (HDI.out p hp) hE0 (fun q h => by simp [Obs] at h)); have HAT17 := Lib.hid (((HAT16.out).quiet hE0).all hR17); (obtain ⟨p17, cap17, rfl, hc17, hm17⟩ := hR17.form); clear hSl hE hE0 hR17 HAT16 HSRC HPS HDI)
        refine X_begin [] [] (fun _ => True) (by kernel_rfl) ?_
        refine X_pure 0 rfl (by kernel_rfl) (by kernel_rfl) (by kernel_rfl) (by kernel_rfl) (fun c a w h => hQp c a _ _ w h) rfl (by intro w; go_simp; first | done | with_reducible rfl) ?_
        try simp only [Act.put, List.setIfInBounds_toArray, List.set_cons_zero, List.set_cons_succ]
        refine X_pure 1 rfl (by kernel_rfl) (by kernel_rfl) (by kernel_rfl) (by kernel_rfl) (fun c a w h => hQp c a _ _ w h) rfl (by intro w; go_simp; first | done | with_reducible rfl) ?_
        try simp only [Act.put, List.setIfInBounds_toArray, List.set_cons_zero, List.set_cons_succ]
        refine X_pure 2 rfl (by kernel_rfl) (by kernel_rfl) (by kernel_rfl) (by kernel_rfl) (fun c a w h => hQp c a _ _ w h) rfl (by intro w; go_simp; first | done | with_reducible rfl) ?_
        try simp only [Act.put, List.setIfInBounds_toArray, List.set_cons_zero, List.set_cons_succ]
        refine X_pure 3 rfl (by kernel_rfl) (by kernel_rfl) (by kernel_rfl) (by kernel_rfl) (fun c a w h => hQp c a _ _ w h) rfl (by intro w; go_simp; first | done | with_reducible rfl) ?_
        try simp only [Act.put, List.setIfInBounds_toArray, List.set_cons_zero, List.set_cons_succ]
        refine X_pure 4 rfl (by kernel_rfl) (by kernel_rfl) (by kernel_rfl) (by kernel_rfl) (fun c a w h => hQp c a _ _ w h) rfl (by intro w; go_simp; first | done | with_reducible rfl) ?_
        try simp only [Act.put, List.setIfInBounds_toArray, List.set_cons_zero, List.set_cons_succ]
        refine X_pure 5 rfl (by kernel_rfl) (by kernel_rfl) (by kernel_rfl) (by kernel_rfl) (fun c a w h => hQp c a _ _ w h) rfl (by intro w; go_simp; first | done | with_reducible rfl) ?_
        try simp only [Act.put, List.setIfInBounds_toArray, List.set_cons_zero, List.set_cons_succ]
        refine X_pure 6 rfl (by kernel_rfl) (by kernel_rfl) (by kernel_rfl) (by kernel_rfl) (fun c a w h => hQp c a _ _ w h) rfl (by intro w; go_simp; first | done | with_reducible rfl) ?_
        try simp only [Act.put, List.setIfInBounds_toArray, List.set_cons_zero, List.set_cons_succ]
        refine X_pure 7 rfl (by kernel_rfl) (by kernel_rfl) (by kernel_rfl) (by kernel_rfl) (fun c a w h => hQp c a _ _ w h) rfl (by intro w; go_simp; first | done | with_reducible rfl) ?_
        try simp only [Act.put, List.setIfInBounds_toArray, List.set_cons_zero, List.set_cons_succ]
        refine X_pure 8 rfl (by kernel_rfl) (by kernel_rfl) (by kernel_rfl) (by kernel_rfl) (fun c a w h => hQp c a _ _ w h) rfl (by intro w; go_simp; first | done | with_reducible rfl) ?_
        try simp only [Act.put, List.setIfInBounds_toArray, List.set_cons_zero, List.set_cons_succ]
        refine X_done (by kernel_rfl) ?_ _
        go_wp2_with fail
        have h18 := (HAT17.out).quiet (Ext.refl (Obs []) c17 w17).drew
        have htk := h18.recs.take got.length (Nat.le_refl _)
        rw [take_self] at htk
        exact HK.out _ _ _ _ _ _ _ _ _ _ _ _ _ _ _ _ _ _ _ _ _ _ _ _ _ _ _ _ _ _ _ _ _ _ _ _ _ _ _ _ _ _ _ _ _ _ _ _ _ _ _ _ _ _ _ _ _ _ _ _ _ _ _ _ _ _ _ _ _ _ _ _ _ _ _ _ _ _ _ ⟨c17, Z2, _, _, got, by omega, h18.disk, h18.lane, htk, h18.deeds, h18.ext, O3.out⟩
      · have HS := Lib.hid hs
        clear hs hwas
        go_upto_region 59 with (first
          | (go_at_call 21; refine (HST.out).mono ?_; rintro e w15 ⟨bb, rfl, hb, c15, hE⟩; (obtain rfl : bb = false := by cases bb with | false => rfl | true => exact absurd (hb.1 rfl) HS.out); have HAT15 := Lib.hid ((HAT14.out).quiet hE); have HOR15 := Lib.hid ((HOR.out).keep hE (fun q h => by simp [Obs] at h)); have hst2 := starts_in c15 w15 (N + 1) (N + 1) _ _ _ got ((HN.out).keep hE (fun q h => by simp [Obs] at h)) HOR15.out HED.out (dirt_ok HGOK.out) (by rw [places_len]; omega); have HST2 := Lib.hid hst2; clear hb hE hst2 HST HAT14 HOR)
          | (go_at_call 21; refine (HST2.out).mono ?_; rintro e w16 ⟨bb, rfl, hb, c16, hE⟩; (obtain rfl : bb = true := hb.2 HSG.out); have HAT16 := Lib.hid ((HAT15.out).quiet hE); have HOR16 := Lib.hid ((HOR15.out).keep hE (fun q h => by simp [Obs] at h)); obtain ⟨ps, hps, hsrc, hdirt⟩ := (HOR16.out).src; have HSRC := Lib.hid hsrc; have HPS := Lib.hid hps; have HDI := Lib.hid hdirt; clear hb hE HST2 HAT15 HOR15 hsrc hps hdirt))
        go_upto_region 60 with (at_builtin; go_must (refine append_sl (o := ⟨some 236, _, _, _, _, _⟩) rfl (.const (.slice none 0 0)) (.tmp 235) 34 34 rfl 33 ir _ 8 104 Try.underlying34 hir hr1 hr2 hr3 (by rfl) c16 (N + 1, 0) (.slice none 0 0) 0 [] rfl (Sl.nil _ _ _ _) (.slice op got.length ocap) rfl got.length (ps.flatMap fun p => recCells p.1 p.2) HSRC.out (by unfold maxLen; omega) (by omega) ?_); intro v17 w17 c17 hSl hE; have hE0 := own_nil _ hE; have hR17 := Recs.mk' (q := 0) HPS.out hSl (fun p hp => Rs.keep (HDI.out p hp) hE0 (fun q h => by simp [Obs] at h)); have HAT17 := Lib.hid (((HAT16.out).quiet hE0).all hR17); (obtain ⟨p17, cap17, rfl, hc17, hm17⟩ := hR17.form); clear hSl hE hE0 hR17 HAT16 HSRC HPS HDI)
        refine X_begin [] [] (fun _ => True) (by kernel_rfl) ?_
        refine X_pure 0 rfl (by kernel_rfl) (by kernel_rfl) (by kernel_rfl) (by kernel_rfl) (fun c a w h => hQp c a _ _ w h) rfl (by intro w; go_simp; first | done | with_reducible rfl) ?_
        try simp only [Act.put, List.setIfInBounds_toArray, List.set_cons_zero, List.set_cons_succ]
        refine X_pure 1 rfl (by kernel_rfl) (by kernel_rfl) (by kernel_rfl) (by kernel_rfl) (fun c a w h => hQp c a _ _ w h) rfl (by intro w; go_simp; first | done | with_reducible rfl) ?_
        try simp only [Act.put, List.setIfInBounds_toArray, List.set_cons_zero, List.set_cons_succ]
        refine X_pure 2 rfl (by kernel_rfl) (by kernel_rfl) (by kernel_rfl) (by kernel_rfl) (fun c a w h => hQp c a _ _ w h) rfl (by intro w; go_simp; first | done | with_reducible rfl) ?_
        try simp only [Act.put, List.setIfInBounds_toArray, List.set_cons_zero, List.set_cons_succ]
        refine X_pure 3 rfl (by kernel_rfl) (by kernel_rfl) (by kernel_rfl) (by kernel_rfl) (fun c a w h => hQp c a _ _ w h) rfl (by intro w; go_simp; first | done | with_reducible rfl) ?_
        try simp only [Act.put, List.setIfInBounds_toArray, List.set_cons_zero, List.set_cons_succ]
        refine X_pure 4 rfl (by kernel_rfl) (by kernel_rfl) (by kernel_rfl) (by kernel_rfl) (fun c a w h => hQp c a _ _ w h) rfl (by intro w; go_simp; first | done | with_reducible rfl) ?_
        try simp only [Act.put, List.setIfInBounds_toArray, List.set_cons_zero, List.set_cons_succ]
        refine X_pure 5 rfl (by kernel_rfl) (by kernel_rfl) (by kernel_rfl) (by kernel_rfl) (fun c a w h => hQp c a _ _ w h) rfl (by intro w; go_simp; first | done | with_reducible rfl) ?_
        try simp only [Act.put, List.setIfInBounds_toArray, List.set_cons_zero, List.set_cons_succ]
        refine X_pure 6 rfl (by kernel_rfl) (by kernel_rfl) (by kernel_rfl) (by kernel_rfl) (fun c a w h => hQp c a _ _ w h) rfl (by intro w; go_simp; first | done | with_reducible rfl) ?_
        try simp only [Act.put, List.setIfInBounds_toArray, List.set_cons_zero, List.set_cons_succ]
        refine X_pure 7 rfl (by kernel_rfl) (by kernel_rfl) (by kernel_rfl) (by kernel_rfl) (fun c a w h => hQp c a _ _ w h) rfl (by intro w; go_simp; first | done | with_reducible rfl) ?_
        try simp only [Act.put, List.setIfInBounds_toArray, List.set_cons_zero, List.set_cons_succ]
        refine X_pure 8 rfl (by kernel_rfl) (by kernel_rfl) (by kernel_rfl) (by kernel_rfl) (fun c a w h => hQp c a _ _ w h) rfl (by intro w; go_simp; first | done | with_reducible rfl) ?_
        try simp only [Act.put, List.setIfInBounds_toArray, List.set_cons_zero, List.set_cons_succ]
        refine X_done (by kernel_rfl) ?_ _
        go_wp2_with fail
        have h18 := (HAT17.out).quiet (Ext.refl (Obs []) c17 w17).drew
        have htk := h18.recs.take got.length (Nat.le_refl _)
        rw [take_self] at htk
        exact HK.out _ _ _ _ _ _ _ _ _ _ _ _ _ _ _ _ _ _ _ _ _ _ _ _ _ _ _ _ _ _ _ _ _ _ _ _ _ _ _ _ _ _ _ _ _ _ _ _ _ _ _ _ _ _ _ _ _ _ _ _ _ _ _ _ _ _ _ _ _ _ _ _ _ _ _ _ _ _ _ ⟨c17, Z2, _, _, got, by omega, h18.disk, h18.lane, htk, h18.deeds, h18.ext, O3.out⟩
end Go.Proofs.Ytfeacmlnlljnnaa
