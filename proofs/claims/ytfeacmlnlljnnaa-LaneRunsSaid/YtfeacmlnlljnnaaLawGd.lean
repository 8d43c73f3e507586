/- Statements of layer 7: a crash, and the lane is opened. -/
import Derived.Test.YtfeacmlnlljnnaaLawGa
namespace Go.Proofs.Ytfeacmlnlljnnaa
open Go Go.Proofs Go.RowKit

set_option maxRecDepth 100000 in
set_option maxHeartbeats 4000000 in
theorem deed3 (c : Col) (w : World) (N Y d l pk : Nat) (dsv : Value) (ds : List Deed) (dd : Deed) (av : Value) (k n : Nat) (Z : Nat) (D : DiskM) (L : LaneM) (rs : List Rec) (c7 : Col) (w7 : World) (hfn : Y < N) (hZ : N + 2 ≤ Z)
    (hat : RunAt c w N Y d Z l pk dsv ds dd D L av rs c7 w7) (hok : RunOk D L rs k n) (hn60 : n ≤ 1000) (hmem : dd ∈ ds) (hdl : dd.dirty.length ≤ 100) (t0 t1 t2 t5 t8 t11 t13 t14 t15 t16 t17 t18 t19 t20 t21 t22 t23 t24 t25 t26 t27 t28 t29 t30 t31 t32 t33 t34 t35 t36 t37 t38 t39 t40 t41 t42 t43 t44 t45 t46 t47 t48 t50 t51 t52 t53 t54 t55 t56 t57 t58 t59 t60 t61 t62 t63 t64 t65 t66 t67 t68 t69 t70 t71 t72 t73 t74 t75 t76 t77 t78 t79 t80 t81 t82 t83 t84 t85 t86 t87 t88 t89 t90 t91 t92 t93 t94 t95 t96 t97 t98 t99 t100 t101 t102 t103 t104 t105 t106 t107 t108 t109 t110 t111 t112 t113 t114 t115 t116 t117 t118 t119 t120 t121 t122 t123 t124 t125 t126 t127 t128 t129 t130 t131 t132 t133 t134 t135 t136 t137 t138 t139 t140 t141 t142 t143 t144 t145 t146 t147 t148 t149 t150 t151 t152 t153 t154 t155 t156 t157 t158 t159 t160 t161 t162 t163 t164 t165 t166 t167 t168 t169 t170 t171 t172 t173 t174 t175 t176 t177 t178 t179 t180 t181 t182 t183 t184 t185 t186 t187 t188 t189 t190 t191 t192 t193 t194 t195 t196 t197 t198 t199 t200 t201 t202 t203 t204 t205 t206 t207 t208 t209 t210 t211 t212 t213 t214 t215 t216 t217 t218 t219 t220 t221 t222 t223 t224 t225 t226 t227 t228 t229 t230 t231 t232 t233 t234 t235 t236 t237 t238 t239 t240 t241 t242 t243 t244 t245 t246 : Value) (K : Act → World → Prop) (Q : Exit → Act → World → Prop) (hQp : ∀ (x : List PanicEntry) (a : Act) (t : Option Tmp) (v : Value) (w : World), Q (.panic x) (a.put t v) w → Q (.panic x) a w)
    (hK : ∀ (l2 k2 : Nat) (dn an : Bool) (av2 ov2 : Value) (s2 s13 s14 s15 s16 s17 s18 s19 s20 s21 s50 s51 s52 s53 s54 s55 s56 s57 s58 s59 s60 s61 s62 s63 s64 s65 s66 s67 s68 s69 s70 s71 s72 s73 s74 s75 s76 s77 s78 s79 s80 s81 s82 s83 s84 s85 s86 s87 s88 s89 s90 s91 s92 s93 s94 s95 s96 s97 s98 s99 s100 s101 s102 s103 s104 s105 s106 s107 s108 s109 s110 s111 s112 s113 s114 s115 s116 s117 s118 s119 s120 s121 s122 s123 s124 s125 s126 s127 s128 s129 s130 s131 s132 s133 s134 s135 s136 s137 s138 s139 s140 s141 s142 s143 s144 s145 s146 s147 s148 s149 s150 s151 s152 s153 s154 s155 s156 s157 s158 s159 s160 s161 s162 s163 s164 s165 s166 s167 s168 s169 s170 s171 s172 s173 s174 s175 : Value) (w' : World), Mid7 c w N Y d l2 pk dsv ds dd av2 ov2 k2 n dn an w' → K { tmps := #[t0, t1, s2, .pointer (some ⟨d, 0, none⟩), .pointer (some ⟨l2, 0, none⟩), t5, av2, .int .i64 (k2 : Int), ov2, .bool dn, .bool an, t11, .pointer (some ⟨pk, 0, none⟩), s13, s14, s15, s16, s17, s18, s19, s20, s21, t22, t23, t24, t25, t26, t27, t28, t29, t30, t31, t32, t33, t34, t35, t36, t37, t38, t39, t40, t41, t42, t43, t44, t45, t46, t47, t48, .int .i64 3, s50, s51, s52, s53, s54, s55, s56, s57, s58, s59, s60, s61, s62, s63, s64, s65, s66, s67, s68, s69, s70, s71, s72, s73, s74, s75, s76, s77, s78, s79, s80, s81, s82, s83, s84, s85, s86, s87, s88, s89, s90, s91, s92, s93, s94, s95, s96, s97, s98, s99, s100, s101, s102, s103, s104, s105, s106, s107, s108, s109, s110, s111, s112, s113, s114, s115, s116, s117, s118, s119, s120, s121, s122, s123, s124, s125, s126, s127, s128, s129, s130, s131, s132, s133, s134, s135, s136, s137, s138, s139, s140, s141, s142, s143, s144, s145, s146, s147, s148, s149, s150, s151, s152, s153, s154, s155, s156, s157, s158, s159, s160, s161, s162, s163, s164, s165, s166, s167, s168, s169, s170, s171, s172, s173, s174, s175, t176, t177, t178, t179, t180, t181, t182, t183, t184, t185, t186, t187, t188, t189, t190, t191, t192, t193, t194, t195, t196, t197, t198, t199, t200, t201, t202, t203, t204, t205, t206, t207, t208, t209, t210, t211, t212, t213, t214, t215, t216, t217, t218, t219, t220, t221, t222, t223, t224, t225, t226, t227, t228, t229, t230, t231, t232, t233, t234, t235, t236, t237, t238, t239, t240, t241, t242, t243, t244, t245, t246], defers := [] } w') :
    Code.wp Try.prog code7a (Exit.then K Q) { tmps := #[t0, t1, t2, .pointer (some ⟨d, 0, none⟩), .pointer (some ⟨l, 0, none⟩), t5, av, .int .i64 (k : Int), t8, .bool false, .bool false, t11, .pointer (some ⟨pk, 0, none⟩), t13, t14, t15, t16, t17, t18, t19, t20, t21, t22, t23, t24, t25, t26, t27, t28, t29, t30, t31, t32, t33, t34, t35, t36, t37, t38, t39, t40, t41, t42, t43, t44, t45, t46, t47, t48, .int .i64 3, t50, t51, t52, t53, t54, t55, t56, t57, t58, t59, t60, t61, t62, t63, t64, t65, t66, t67, t68, t69, t70, t71, t72, t73, t74, t75, t76, t77, t78, t79, t80, t81, t82, t83, t84, t85, t86, t87, t88, t89, t90, t91, t92, t93, t94, t95, t96, t97, t98, t99, t100, t101, t102, t103, t104, t105, t106, t107, t108, t109, t110, t111, t112, t113, t114, t115, t116, t117, t118, t119, t120, t121, t122, t123, t124, t125, t126, t127, t128, t129, t130, t131, t132, t133, t134, t135, t136, t137, t138, t139, t140, t141, t142, t143, t144, t145, t146, t147, t148, t149, t150, t151, t152, t153, t154, t155, t156, t157, t158, t159, t160, t161, t162, t163, t164, t165, t166, t167, t168, t169, t170, t171, t172, t173, t174, t175, t176, t177, t178, t179, t180, t181, t182, t183, t184, t185, t186, t187, t188, t189, t190, t191, t192, t193, t194, t195, t196, t197, t198, t199, t200, t201, t202, t203, t204, t205, t206, t207, t208, t209, t210, t211, t212, t213, t214, t215, t216, t217, t218, t219, t220, t221, t222, t223, t224, t225, t226, t227, t228, t229, t230, t231, t232, t233, t234, t235, t236, t237, t238, t239, t240, t241, t242, t243, t244, t245, t246], defers := [] } w7 := by
  obtain ⟨ap, acap, hu6, hac, hac2⟩ := hat.recs.form
  subst hu6
  obtain ⟨hwf, hdirt⟩ := hat.deeds.2 dd hmem
  have HWF := Lib.hid hwf
  have HDT := Lib.hid hdirt
  have HAT := Lib.hid hat
  have HOK := Lib.hid hok
  have HK := Lib.hid hK
  clear hat hok hK hwf hdirt
  unfold code7a code7 Try.f3
  dsimp only [codeL, codeR, codeB, codeO, codeS]
  have hat := HAT.out
  have hok := HOK.out
  have k3 : w7.cell? ⟨pk, 10, none⟩ = some (.int .u64 (dd.mask : Int)) := (hat.box.cell 10).trans rfl
  obtain ⟨rest, pre, o2, o3⟩ := hok.open_ hn60 (mbits dd.mask)
  have hcr := crash_in c7 w7 N d D dd.mask (HWF.out).mask hat.disk (fun r hr => by have := hok.dn; have hr0 : r = 0 := (by omega); have h1 := hok.inv.waits; rw [hok.r] at h1; rw [hr0, h1]; exact Nat.zero_le _)
  have HCR := Lib.hid hcr
  have PRE := Lib.hid pre
  have O2 := Lib.hid o2
  have O3 := Lib.hid o3
  have hdn : (D.crash (mbits dd.mask)).n = 1 ∧ (D.crash (mbits dd.mask)).size = 538 := ⟨hok.dn, hok.size⟩
  have hgb := And.intro hok.inv.gen (And.intro hok.inv.wf.gen hok.inv.wf.bank)
  have hkle := hok.inv.le
  have HDN := Lib.hid hdn
  have HGB := Lib.hid hgb
  have hrdl := dirt_ok hok.inv.ok
  have HRD := Lib.hid hrdl
  have hcnt : rs.length ≤ 14336 := by
    have h1 := hok.inv.wf.b
    rw [hok.inv.b] at h1
    exact Nat.le_trans (encs_count rs) h1
  clear hat hok pre o2 o3 hcr hdn hgb hrdl
  go_upto_region 39 with (go_at_call 19; refine (HCR.out).mono ?_; rintro e w8 ⟨c8, rfl, hD, hE⟩; have HAT8 := Lib.hid ((HAT.out).did hZ hfn hD hE); clear hD hE HCR HAT)
  clear k3
  obtain ⟨Z2, hZ2, hf2⟩ := big_col c8 w8 (N + 2)
  have hop := open_in c8 w8 N Z2 (N + 1) d (D.crash (mbits dd.mask)) 0 L.gen L.bank (rs.take k) rest (by omega) (by omega) (by omega) (HAT8.out).disk (by rw [(HDN.out).1]; omega) (by omega) (by rw [(HDN.out).2]; omega) (by rw [crash_waits]; exact Nat.zero_le _) (HGB.out).1 (HGB.out).2.1 (HGB.out).2.2 (PRE.out).n4 (PRE.out).n1 (PRE.out).st (PRE.out).ok (PRE.out).short (PRE.out).len (PRE.out).rl
  have HOP := Lib.hid hop
  clear hop hf2
  go_upto_region 42 with (go_at_call 20; refine (HOP.out).mono ?_; intro e w9 hq; obtain ⟨c9, l9, v9, rfl, hD, hL, hN, hE⟩ := opened_ok hq O2.out; have HN9 := Lib.hid hN; have HAT9 := Lib.hid (((HAT8.out).did hZ hfn hD hE).lane2 hL); clear hq hD hL hN hE HOP HAT8)
  obtain ⟨hs1, hs2⟩ := starts_take L.gen 0 rs k hkle
  obtain ⟨p9, cap9, rfl, hc9, hm9⟩ := (HN9.out).form
  have hst := starts_in c9 w9 (N + 1) (N + 1) _ _ _ rs HN9.out (HAT9.out).recs (by
    intro e he
    have : e.2 ∈ rs := by
      have h1 : e.2 ∈ (places L.gen 0 (rs.take k)).map Prod.snd := List.mem_map.2 ⟨e, he, rfl⟩
      rw [places_snd] at h1
      exact List.mem_of_mem_take h1
    exact HRD.out e.2 this) HRD.out (by rw [hs2]; omega)
  rw [hs2] at hst hc9 ⊢
  have HST := Lib.hid hst
  have HS1 := Lib.hid hs1
  clear hst hs1 hs2
  go_upto_region 47 with (go_at_call 21; refine (HST.out).mono ?_; rintro e w10 ⟨bb, rfl, hb, c10, hE⟩; (obtain rfl : bb = true := hb.2 HS1.out); have HAT10 := Lib.hid ((HAT9.out).quiet hE); clear hb hE HST HAT9 HN9)
  have hka : k ≤ acap := by omega
  refine X_begin [] [] (fun _ => True) (by kernel_rfl) ?_
  refine X_pure 0 rfl (by kernel_rfl) (by kernel_rfl) (by kernel_rfl) (by kernel_rfl) (fun c a w h => hQp c a _ _ w h) rfl (by intro w; go_simp; first | done | with_reducible rfl) ?_
  try simp only [Act.put, List.setIfInBounds_toArray, List.set_cons_zero, List.set_cons_succ]
  refine X_pure 1 rfl (by kernel_rfl) (by kernel_rfl) (by kernel_rfl) (by kernel_rfl) (fun c a w h => hQp c a _ _ w h) rfl (by intro w; go_simp; first | done | with_reducible rfl) ?_
  try simp only [Act.put, List.setIfInBounds_toArray, List.set_cons_zero, List.set_cons_succ]
  refine X_pure 2 rfl (by kernel_rfl) (by kernel_rfl) (by kernel_rfl) (by kernel_rfl) (fun c a w h => hQp c a _ _ w h) rfl (by intro w; go_simp; first | done | with_reducible rfl) ?_
  try simp only [Act.put, List.setIfInBounds_toArray, List.set_cons_zero, List.set_cons_succ]
  refine X_pure 3 rfl (by kernel_rfl) (by kernel_rfl) (by kernel_rfl) (by kernel_rfl) (fun c a w h => hQp c a _ _ w h) rfl (by intro w; go_simp; first | done | with_reducible rfl) ?_
  try simp only [Act.put, List.setIfInBounds_toArray, List.set_cons_zero, List.set_cons_succ]
  refine X_pure 4 rfl (by kernel_rfl) (by kernel_rfl) (by kernel_rfl) (by kernel_rfl) (fun c a w h => hQp c a _ _ w h) rfl (by intro w; go_simp; first | done | with_reducible rfl) ?_
  try simp only [Act.put, List.setIfInBounds_toArray, List.set_cons_zero, List.set_cons_succ]
  refine X_pure 5 rfl (by kernel_rfl) (by kernel_rfl) (by kernel_rfl) (by kernel_rfl) (fun c a w h => hQp c a _ _ w h) rfl (by intro w; go_simp; first | done | with_reducible rfl) ?_
  try simp only [Act.put, List.setIfInBounds_toArray, List.set_cons_zero, List.set_cons_succ]
  refine X_pure 6 rfl (by kernel_rfl) (by kernel_rfl) (by kernel_rfl) (by kernel_rfl) (fun c a w h => hQp c a _ _ w h) rfl (by intro w; go_simp; first | done | with_reducible rfl) ?_
  try simp only [Act.put, List.setIfInBounds_toArray, List.set_cons_zero, List.set_cons_succ]
  refine X_pure 7 rfl (by kernel_rfl) (by kernel_rfl) (by kernel_rfl) (by kernel_rfl) (fun c a w h => hQp c a _ _ w h) rfl (by intro w; go_simp; first | done | with_reducible rfl) ?_
  try simp only [Act.put, List.setIfInBounds_toArray, List.set_cons_zero, List.set_cons_succ]
  refine X_pure 8 rfl (by kernel_rfl) (by kernel_rfl) (by kernel_rfl) (by kernel_rfl) (fun c a w h => hQp c a _ _ w h) rfl (by intro w; go_simp; first | done | with_reducible rfl) ?_
  try simp only [Act.put, List.setIfInBounds_toArray, List.set_cons_zero, List.set_cons_succ]
  refine X_done (by kernel_rfl) ?_ _
  go_wp2_with fail
  have hlk : (rs.take k).length = k := by rw [List.length_take]; omega
  have hO3 := O3.out
  rw [hlk] at hO3
  have h11 := (HAT10.out).quiet (Ext.refl (Obs []) c10 w10).drew
  exact HK.out _ _ _ _ _ _ _ _ _ _ _ _ _ _ _ _ _ _ _ _ _ _ _ _ _ _ _ _ _ _ _ _ _ _ _ _ _ _ _ _ _ _ _ _ _ _ _ _ _ _ _ _ _ _ _ _ _ _ _ _ _ _ _ _ _ _ _ _ _ _ _ _ _ _ _ _ _ _ _ _ _ _ _ _ _ _ _ _ _ _ _ _ _ _ _ _ _ _ _ _ _ _ _ _ _ _ _ _ _ _ _ _ _ _ _ _ _ _ _ _ _ _ _ _ _ _ _ _ _ _ _ _ _ _ _ _ _ _ _ _ _ _ _ ⟨c10, Z2, _, _, rs.take k, by omega, h11.all (h11.recs.take k hkle), .inl ⟨rfl, rfl, hO3.succ⟩⟩
end Go.Proofs.Ytfeacmlnlljnnaa
