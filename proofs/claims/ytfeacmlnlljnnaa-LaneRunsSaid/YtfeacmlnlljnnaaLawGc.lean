/- Statements of layer 7: a deed that lays anew. -/
import Derived.Test.YtfeacmlnlljnnaaLawGa
namespace Go.Proofs.Ytfeacmlnlljnnaa
open Go Go.Proofs Go.RowKit

set_option maxRecDepth 100000 in
set_option maxHeartbeats 4000000 in
theorem deed2 (c : Col) (w : World) (N Y d l pk : Nat) (dsv : Value) (ds : List Deed) (dd : Deed) (av : Value) (k n : Nat) (Z : Nat) (D : DiskM) (L : LaneM) (rs : List Rec) (c7 : Col) (w7 : World) (hfn : Y < N) (hZ : N + 2 ≤ Z)
    (hat : RunAt c w N Y d Z l pk dsv ds dd D L av rs c7 w7) (hok : RunOk D L rs k n) (hn60 : n ≤ 1000) (hmem : dd ∈ ds) (hdl : dd.dirty.length ≤ 100) (t0 t1 t2 t5 t8 t11 t13 t14 t15 t16 t17 t18 t19 t20 t21 t22 t23 t24 t25 t26 t27 t28 t29 t30 t31 t32 t33 t34 t35 t36 t37 t38 t39 t40 t41 t42 t43 t44 t45 t46 t47 t48 t50 t51 t52 t53 t54 t55 t56 t57 t58 t59 t60 t61 t62 t63 t64 t65 t66 t67 t68 t69 t70 t71 t72 t73 t74 t75 t76 t77 t78 t79 t80 t81 t82 t83 t84 t85 t86 t87 t88 t89 t90 t91 t92 t93 t94 t95 t96 t97 t98 t99 t100 t101 t102 t103 t104 t105 t106 t107 t108 t109 t110 t111 t112 t113 t114 t115 t116 t117 t118 t119 t120 t121 t122 t123 t124 t125 t126 t127 t128 t129 t130 t131 t132 t133 t134 t135 t136 t137 t138 t139 t140 t141 t142 t143 t144 t145 t146 t147 t148 t149 t150 t151 t152 t153 t154 t155 t156 t157 t158 t159 t160 t161 t162 t163 t164 t165 t166 t167 t168 t169 t170 t171 t172 t173 t174 t175 t176 t177 t178 t179 t180 t181 t182 t183 t184 t185 t186 t187 t188 t189 t190 t191 t192 t193 t194 t195 t196 t197 t198 t199 t200 t201 t202 t203 t204 t205 t206 t207 t208 t209 t210 t211 t212 t213 t214 t215 t216 t217 t218 t219 t220 t221 t222 t223 t224 t225 t226 t227 t228 t229 t230 t231 t232 t233 t234 t235 t236 t237 t238 t239 t240 t241 t242 t243 t244 t245 t246 : Value) (K : Act → World → Prop) (Q : Exit → Act → World → Prop) (hQp : ∀ (x : List PanicEntry) (a : Act) (t : Option Tmp) (v : Value) (w : World), Q (.panic x) (a.put t v) w → Q (.panic x) a w)
    (hK : ∀ (l2 k2 : Nat) (dn an : Bool) (av2 ov2 : Value) (s2 s13 s14 s15 s16 s17 s18 s19 s20 s21 s50 s51 s52 s53 s54 s55 s56 s57 s58 s59 s60 s61 s62 s63 s64 s65 s66 s67 s68 s69 s70 s71 s72 s73 s74 s75 s76 s77 s78 s79 s80 s81 s82 s83 s84 s85 s86 s87 s88 s89 s90 s91 s92 s93 s94 s95 s96 s97 s98 s99 s100 s101 s102 s103 s104 s105 s106 s107 s108 s109 s110 s111 s112 s113 s114 s115 s116 s117 s118 s119 s120 s121 s122 s123 s124 s125 s126 s127 s128 s129 s130 s131 s132 s133 s134 s135 s136 s137 s138 s139 s140 s141 s142 s143 s144 s145 s146 s147 s148 s149 s150 s151 s152 s153 s154 s155 s156 s157 s158 s159 s160 s161 s162 s163 s164 s165 s166 s167 s168 s169 s170 s171 s172 s173 s174 s175 : Value) (w' : World), Mid7 c w N Y d l2 pk dsv ds dd av2 ov2 k2 n dn an w' → K { tmps := #[t0, t1, s2, .pointer (some ⟨d, 0, none⟩), .pointer (some ⟨l2, 0, none⟩), t5, av2, .int .i64 (k2 : Int), ov2, .bool dn, .bool an, t11, .pointer (some ⟨pk, 0, none⟩), s13, s14, s15, s16, s17, s18, s19, s20, s21, t22, t23, t24, t25, t26, t27, t28, t29, t30, t31, t32, t33, t34, t35, t36, t37, t38, t39, t40, t41, t42, t43, t44, t45, t46, t47, t48, .int .i64 2, s50, s51, s52, s53, s54, s55, s56, s57, s58, s59, s60, s61, s62, s63, s64, s65, s66, s67, s68, s69, s70, s71, s72, s73, s74, s75, s76, s77, s78, s79, s80, s81, s82, s83, s84, s85, s86, s87, s88, s89, s90, s91, s92, s93, s94, s95, s96, s97, s98, s99, s100, s101, s102, s103, s104, s105, s106, s107, s108, s109, s110, s111, s112, s113, s114, s115, s116, s117, s118, s119, s120, s121, s122, s123, s124, s125, s126, s127, s128, s129, s130, s131, s132, s133, s134, s135, s136, s137, s138, s139, s140, s141, s142, s143, s144, s145, s146, s147, s148, s149, s150, s151, s152, s153, s154, s155, s156, s157, s158, s159, s160, s161, s162, s163, s164, s165, s166, s167, s168, s169, s170, s171, s172, s173, s174, s175, t176, t177, t178, t179, t180, t181, t182, t183, t184, t185, t186, t187, t188, t189, t190, t191, t192, t193, t194, t195, t196, t197, t198, t199, t200, t201, t202, t203, t204, t205, t206, t207, t208, t209, t210, t211, t212, t213, t214, t215, t216, t217, t218, t219, t220, t221, t222, t223, t224, t225, t226, t227, t228, t229, t230, t231, t232, t233, t234, t235, t236, t237, t238, t239, t240, t241, t242, t243, t244, t245, t246], defers := [] } w') :
    Code.wp Try.prog code7a (Exit.then K Q) { tmps := #[t0, t1, t2, .pointer (some ⟨d, 0, none⟩), .pointer (some ⟨l, 0, none⟩), t5, av, .int .i64 (k : Int), t8, .bool false, .bool false, t11, .pointer (some ⟨pk, 0, none⟩), t13, t14, t15, t16, t17, t18, t19, t20, t21, t22, t23, t24, t25, t26, t27, t28, t29, t30, t31, t32, t33, t34, t35, t36, t37, t38, t39, t40, t41, t42, t43, t44, t45, t46, t47, t48, .int .i64 2, t50, t51, t52, t53, t54, t55, t56, t57, t58, t59, t60, t61, t62, t63, t64, t65, t66, t67, t68, t69, t70, t71, t72, t73, t74, t75, t76, t77, t78, t79, t80, t81, t82, t83, t84, t85, t86, t87, t88, t89, t90, t91, t92, t93, t94, t95, t96, t97, t98, t99, t100, t101, t102, t103, t104, t105, t106, t107, t108, t109, t110, t111, t112, t113, t114, t115, t116, t117, t118, t119, t120, t121, t122, t123, t124, t125, t126, t127, t128, t129, t130, t131, t132, t133, t134, t135, t136, t137, t138, t139, t140, t141, t142, t143, t144, t145, t146, t147, t148, t149, t150, t151, t152, t153, t154, t155, t156, t157, t158, t159, t160, t161, t162, t163, t164, t165, t166, t167, t168, t169, t170, t171, t172, t173, t174, t175, t176, t177, t178, t179, t180, t181, t182, t183, t184, t185, t186, t187, t188, t189, t190, t191, t192, t193, t194, t195, t196, t197, t198, t199, t200, t201, t202, t203, t204, t205, t206, t207, t208, t209, t210, t211, t212, t213, t214, t215, t216, t217, t218, t219, t220, t221, t222, t223, t224, t225, t226, t227, t228, t229, t230, t231, t232, t233, t234, t235, t236, t237, t238, t239, t240, t241, t242, t243, t244, t245, t246], defers := [] } w7 := by
  obtain ⟨ap, acap, hu6, hac, hac2⟩ := hat.recs.form
  subst hu6
  obtain ⟨hwf, hdirt⟩ := hat.deeds.2 dd hmem
  have HWF := Lib.hid hwf
  have HDT := Lib.hid hdirt
  have HAT := Lib.hid hat
  have HOK := Lib.hid hok
  have HK := Lib.hid hK
  clear hat hok hK hwf hdirt
  unfold code7a code7 Try.f3
  dsimp only [codeL, codeR, codeB, codeO, codeS]
  have hat := HAT.out
  have hok := HOK.out
  have k1 : w7.cell? ⟨pk, 1, none⟩ = some (.int .i64 dd.n) := (hat.box.cell 1).trans rfl
  obtain ⟨M8, hM8⟩ : ∃ M8, M8 = (dd.n % 8).toNat := ⟨_, rfl⟩
  have hand7 : Go.bits BinOp.and IntKind.i64 dd.n 7 = (M8 : Int) := by rw [and7i, hM8]; omega
  have hM8' : M8 < 8 := by omega
  obtain ⟨R, hR⟩ : ∃ R, R = rs.length := ⟨_, rfl⟩
  have hcnt : R ≤ 14336 := by
    have h1 := hok.inv.wf.b
    rw [hok.inv.b] at h1
    rw [hR]
    exact Nat.le_trans (encs_count rs) h1
  obtain ⟨mn, hmn⟩ : ∃ mn, mn = min M8 R := ⟨_, rfl⟩
  have hif1 : (if R < M8 then (R : Int) else (M8 : Int)) = (mn : Int) := by rw [hmn]; split <;> omega
  have hif2 : (if (R : Int) < (M8 : Int) then (R : Int) else (M8 : Int)) = (mn : Int) := by rw [hmn]; split <;> omega
  have hmn1 : mn ≤ R := by rw [hmn]; omega
  rw [← hR] at hac
  have hrecs := hat.recs
  rw [← hR] at hrecs ⊢
  obtain ⟨w7', hw7⟩ : ∃ w7', w7' = w7 := ⟨_, rfl⟩
  have hfrom := hrecs.from (R - mn) (by rw [← hR]; omega)
  have HFR := Lib.hid hfrom
  have hmd : R - (R - mn) = mn := by omega
  clear hat hok hM8 hmn hrecs hfrom
  have HRR := Lib.hid hR
  clear hR
  go_upto_region 30 with fail
  go_cut [17] from 99 to 109 (fun s17 wx => wx = w7' ∧ ∃ (q17 : Option Addr) (c17 : Nat), s17 = .slice q17 mn c17 ∧ Hid (Recs c7 w7' (N + 1) s17 (rs.drop (R - mn))))
  case first =>
    by_cases hcp : acap = R - mn
    · obtain rfl : mn = 0 := by omega
      obtain rfl : acap = R := by omega
      have hgot : Recs c7 w7 (N + 1) (.slice ap 0 0) (rs.drop (acap - 0)) := by
        have h := (HFR.out).1 (by omega)
        rw [show acap - (acap - 0) = 0 from by omega] at h
        exact h
      have HGOT := Lib.hid hgot
      have hz : acap - 0 = acap := by omega
      clear hgot hcp
      go_wp2_with fail
      go_meet
      exact ⟨hw7.symm, ap, 0, rfl, by rw [hw7]; exact HGOT.out⟩
    · have hgot := (HFR.out).2 hcp
      rw [hmd] at hgot
      have HGOT := Lib.hid hgot
      clear hgot
      go_wp2_with fail
      go_meet
      exact ⟨hw7.symm, _, _, rfl, by rw [hw7]; exact HGOT.out⟩
  case rest =>
    obtain ⟨hwc, q17, c17, rfl, hR17⟩ := hcut
    subst hwc
    subst hw7
    have hos : (rs.drop (R - mn)).length = mn := by rw [List.length_drop, ← HRR.out]; exact hmd
    obtain ⟨os, hos2⟩ : ∃ os, os = rs.drop (R - mn) := ⟨_, rfl⟩
    rw [← hos2] at hR17 hos
    have hosok : ∀ x ∈ os, x.Ok := fun x hx => (HOK.out).inv.ok x (by rw [hos2] at hx; exact List.mem_of_mem_drop hx)
    have hosl : (encs os).length ≤ 14336 := by
      have h1 := (HOK.out).inv.wf.b
      rw [(HOK.out).inv.b] at h1
      have h2 : encs rs = encs (rs.take (R - mn)) ++ encs os := by rw [hos2, ← encs_app, List.take_append_drop]
      rw [h2, List.length_append] at h1
      omega
    have hat := HAT.out
    have hok := HOK.out
    have hanew := anew_in c7 wc N d Z l (N + 1) D L _ os (by omega) (by omega) (by omega) (by omega) hat.disk hat.lane hR17.out hosok hosl (by rw [hok.r, hok.dn]; omega) (by rw [hok.size]; omega) (by rw [hok.inv.waits]; exact Nat.zero_le _) (by have := hok.gen; omega)
    have hcs := hok.anewed hn60 os hosok hosl
    obtain ⟨P, hP⟩ : ∃ P, P = anewD D L.r (L.gen + 1) (1 - L.bank) (encs os) := ⟨_, rfl⟩
    rw [← hP] at hanew hcs
    have HAN := Lib.hid hanew
    have HOS := Lib.hid (And.intro hosok hos)
    clear hat hok hanew hP hosok hosl hos hos2 k1
    rcases hcs with ⟨h0, h1⟩ | ⟨h0, h1⟩
    · rw [h0] at HAN
      have hM : anewM L (encs os) 0 = anewL L (encs os) := if_pos rfl
      rw [hM] at HAN
      have H1 := Lib.hid h1
      clear h0 h1 hM
      obtain ⟨ir, hir, hr1, hr2, hr3⟩ := info_parts info_rec
      go_upto_region 34 with (go_at_call 18; refine (HAN.out).mono ?_; rintro e w8 ⟨c8, rfl, hD, hL, hE⟩; have hR8 := (hR17.out).keep hE (fun q h => by simp [Obs] at h; omega); obtain ⟨ps, hps, hsrc, hdirt⟩ := hR8.src; rw [(HOS.out).2] at hsrc; have HSRC := Lib.hid hsrc; have HPS := Lib.hid hps; have HDI := Lib.hid hdirt; have HAT8 := Lib.hid ((HAT.out).lay hZ hfn hD hL hE); clear hD hL hE HAN HAT hR8 hsrc hps hdirt)
      go_wp2_with (at_builtin; go_must (refine append_sl (o := ⟨some 116, _, _, _, _, _⟩) rfl (.const (.slice none 0 0)) (.tmp 115) 34 34 rfl 33 ir _ 8 104 Try.underlying34 hir hr1 hr2 hr3 (by rfl) c8 (N + 1, 0) (.slice none 0 0) 0 [] rfl (Sl.nil _ _ _ _) (.slice q17 mn c17) rfl mn (ps.flatMap fun p => recCells p.1 p.2) HSRC.out (by unfold maxLen; omega) (by omega) ?_); intro v9 w9 c9 hSl hE; have hE0 := own_nil _ hE; have hR9 := Recs.mk' (q := 0) HPS.out hSl (fun p hp => Rs.keep (HDI.out p hp) hE0 (fun q h => by simp [Obs] at h)); have HAT9 := Lib.hid (((HAT8.out).quiet hE0).all hR9); clear hSl hE hE0 hR9 HAT8 HSRC HPS HDI)
      have hl := (HOS.out).2
      have h2 := H1.out
      rw [hl] at h2
      exact HK.out _ _ _ _ _ _ _ _ _ _ _ _ _ _ _ _ _ _ _ _ _ _ _ _ _ _ _ _ _ _ _ _ _ _ _ _ _ _ _ _ _ _ _ _ _ _ _ _ _ _ _ _ _ _ _ _ _ _ _ _ _ _ _ _ _ _ _ _ _ _ _ _ _ _ _ _ _ _ _ _ _ _ _ _ _ _ _ _ _ _ _ _ _ _ _ _ _ _ _ _ _ _ _ _ _ _ _ _ _ _ _ _ _ _ _ _ _ _ _ _ _ _ _ _ _ _ _ _ _ _ _ _ _ _ _ _ _ _ _ _ _ _ _ ⟨c9, Z, _, _, os, hZ, HAT9.out, .inl ⟨rfl, rfl, h2⟩⟩
    · rw [h0] at HAN
      have hM : anewM L (encs os) 10 = L := if_neg (by decide)
      rw [hM] at HAN
      have H1 := Lib.hid h1
      clear h0 h1 hM
      go_wp2_with (go_at_call 18; refine (HAN.out).mono ?_; rintro e w8 ⟨c8, rfl, hD, hL, hE⟩; have HR8 := Lib.hid ((hR17.out).keep hE (fun q h => by simp [Obs] at h; omega)); have HAT8 := Lib.hid ((HAT.out).lay hZ hfn hD hL hE); clear hD hL hE HAN HAT)
      exact HK.out _ _ _ _ _ _ _ _ _ _ _ _ _ _ _ _ _ _ _ _ _ _ _ _ _ _ _ _ _ _ _ _ _ _ _ _ _ _ _ _ _ _ _ _ _ _ _ _ _ _ _ _ _ _ _ _ _ _ _ _ _ _ _ _ _ _ _ _ _ _ _ _ _ _ _ _ _ _ _ _ _ _ _ _ _ _ _ _ _ _ _ _ _ _ _ _ _ _ _ _ _ _ _ _ _ _ _ _ _ _ _ _ _ _ _ _ _ _ _ _ _ _ _ _ _ _ _ _ _ _ _ _ _ _ _ _ _ _ _ _ _ _ _ ⟨c8, Z, _, L, rs, hZ, (by rw [HRR.out]; exact HAT8.out), .inr ⟨rfl, os, H1.out, fun _ => HR8.out⟩⟩
end Go.Proofs.Ytfeacmlnlljnnaa
