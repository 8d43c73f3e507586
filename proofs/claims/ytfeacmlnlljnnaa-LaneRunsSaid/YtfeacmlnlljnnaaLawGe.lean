/- Statements of layer 7: a deed that appends. -/
import Derived.Test.YtfeacmlnlljnnaaLawGa
namespace Go.Proofs.Ytfeacmlnlljnnaa
open Go Go.Proofs Go.RowKit

set_option maxRecDepth 100000 in
set_option maxHeartbeats 4000000 in
theorem deed0 (c : Col) (w : World) (N Y d l pk : Nat) (dsv : Value) (ds : List Deed) (dd : Deed) (av : Value) (k n : Nat) (Z : Nat) (D : DiskM) (L : LaneM) (rs : List Rec) (c7 : Col) (w7 : World) (hfn : Y < N) (hZ : N + 2 ≤ Z)
    (hat : RunAt c w N Y d Z l pk dsv ds dd D L av rs c7 w7) (hok : RunOk D L rs k n) (hn60 : n ≤ 1000) (hmem : dd ∈ ds) (hdl : dd.dirty.length ≤ 100) (t0 t1 t2 t5 t8 t11 t13 t14 t15 t16 t17 t18 t19 t20 t21 t22 t23 t24 t25 t26 t27 t28 t29 t30 t31 t32 t33 t34 t35 t36 t37 t38 t39 t40 t41 t42 t43 t44 t45 t46 t47 t48 t50 t51 t52 t53 t54 t55 t56 t57 t58 t59 t60 t61 t62 t63 t64 t65 t66 t67 t68 t69 t70 t71 t72 t73 t74 t75 t76 t77 t78 t79 t80 t81 t82 t83 t84 t85 t86 t87 t88 t89 t90 t91 t92 t93 t94 t95 t96 t97 t98 t99 t100 t101 t102 t103 t104 t105 t106 t107 t108 t109 t110 t111 t112 t113 t114 t115 t116 t117 t118 t119 t120 t121 t122 t123 t124 t125 t126 t127 t128 t129 t130 t131 t132 t133 t134 t135 t136 t137 t138 t139 t140 t141 t142 t143 t144 t145 t146 t147 t148 t149 t150 t151 t152 t153 t154 t155 t156 t157 t158 t159 t160 t161 t162 t163 t164 t165 t166 t167 t168 t169 t170 t171 t172 t173 t174 t175 t176 t177 t178 t179 t180 t181 t182 t183 t184 t185 t186 t187 t188 t189 t190 t191 t192 t193 t194 t195 t196 t197 t198 t199 t200 t201 t202 t203 t204 t205 t206 t207 t208 t209 t210 t211 t212 t213 t214 t215 t216 t217 t218 t219 t220 t221 t222 t223 t224 t225 t226 t227 t228 t229 t230 t231 t232 t233 t234 t235 t236 t237 t238 t239 t240 t241 t242 t243 t244 t245 t246 : Value) (K : Act → World → Prop) (Q : Exit → Act → World → Prop) (hQp : ∀ (x : List PanicEntry) (a : Act) (t : Option Tmp) (v : Value) (w : World), Q (.panic x) (a.put t v) w → Q (.panic x) a w)
    (hK : ∀ (l2 k2 : Nat) (dn an : Bool) (av2 ov2 : Value) (s2 s13 s14 s15 s16 s17 s18 s19 s20 s21 s50 s51 s52 s53 s54 s55 s56 s57 s58 s59 s60 s61 s62 s63 s64 s65 s66 s67 s68 s69 s70 s71 s72 s73 s74 s75 s76 s77 s78 s79 s80 s81 s82 s83 s84 s85 s86 s87 s88 s89 s90 s91 s92 s93 s94 s95 s96 s97 s98 s99 s100 s101 s102 s103 s104 s105 s106 s107 s108 s109 s110 s111 s112 s113 s114 s115 s116 s117 s118 s119 s120 s121 s122 s123 s124 s125 s126 s127 s128 s129 s130 s131 s132 s133 s134 s135 s136 s137 s138 s139 s140 s141 s142 s143 s144 s145 s146 s147 s148 s149 s150 s151 s152 s153 s154 s155 s156 s157 s158 s159 s160 s161 s162 s163 s164 s165 s166 s167 s168 s169 s170 s171 s172 s173 s174 s175 : Value) (w' : World), Mid7 c w N Y d l2 pk dsv ds dd av2 ov2 k2 n dn an w' → K { tmps := #[t0, t1, s2, .pointer (some ⟨d, 0, none⟩), .pointer (some ⟨l2, 0, none⟩), t5, av2, .int .i64 (k2 : Int), ov2, .bool dn, .bool an, t11, .pointer (some ⟨pk, 0, none⟩), s13, s14, s15, s16, s17, s18, s19, s20, s21, t22, t23, t24, t25, t26, t27, t28, t29, t30, t31, t32, t33, t34, t35, t36, t37, t38, t39, t40, t41, t42, t43, t44, t45, t46, t47, t48, .int .i64 0, s50, s51, s52, s53, s54, s55, s56, s57, s58, s59, s60, s61, s62, s63, s64, s65, s66, s67, s68, s69, s70, s71, s72, s73, s74, s75, s76, s77, s78, s79, s80, s81, s82, s83, s84, s85, s86, s87, s88, s89, s90, s91, s92, s93, s94, s95, s96, s97, s98, s99, s100, s101, s102, s103, s104, s105, s106, s107, s108, s109, s110, s111, s112, s113, s114, s115, s116, s117, s118, s119, s120, s121, s122, s123, s124, s125, s126, s127, s128, s129, s130, s131, s132, s133, s134, s135, s136, s137, s138, s139, s140, s141, s142, s143, s144, s145, s146, s147, s148, s149, s150, s151, s152, s153, s154, s155, s156, s157, s158, s159, s160, s161, s162, s163, s164, s165, s166, s167, s168, s169, s170, s171, s172, s173, s174, s175, t176, t177, t178, t179, t180, t181, t182, t183, t184, t185, t186, t187, t188, t189, t190, t191, t192, t193, t194, t195, t196, t197, t198, t199, t200, t201, t202, t203, t204, t205, t206, t207, t208, t209, t210, t211, t212, t213, t214, t215, t216, t217, t218, t219, t220, t221, t222, t223, t224, t225, t226, t227, t228, t229, t230, t231, t232, t233, t234, t235, t236, t237, t238, t239, t240, t241, t242, t243, t244, t245, t246], defers := [] } w') :
    Code.wp Try.prog code7a (Exit.then K Q) { tmps := #[t0, t1, t2, .pointer (some ⟨d, 0, none⟩), .pointer (some ⟨l, 0, none⟩), t5, av, .int .i64 (k : Int), t8, .bool false, .bool false, t11, .pointer (some ⟨pk, 0, none⟩), t13, t14, t15, t16, t17, t18, t19, t20, t21, t22, t23, t24, t25, t26, t27, t28, t29, t30, t31, t32, t33, t34, t35, t36, t37, t38, t39, t40, t41, t42, t43, t44, t45, t46, t47, t48, .int .i64 0, t50, t51, t52, t53, t54, t55, t56, t57, t58, t59, t60, t61, t62, t63, t64, t65, t66, t67, t68, t69, t70, t71, t72, t73, t74, t75, t76, t77, t78, t79, t80, t81, t82, t83, t84, t85, t86, t87, t88, t89, t90, t91, t92, t93, t94, t95, t96, t97, t98, t99, t100, t101, t102, t103, t104, t105, t106, t107, t108, t109, t110, t111, t112, t113, t114, t115, t116, t117, t118, t119, t120, t121, t122, t123, t124, t125, t126, t127, t128, t129, t130, t131, t132, t133, t134, t135, t136, t137, t138, t139, t140, t141, t142, t143, t144, t145, t146, t147, t148, t149, t150, t151, t152, t153, t154, t155, t156, t157, t158, t159, t160, t161, t162, t163, t164, t165, t166, t167, t168, t169, t170, t171, t172, t173, t174, t175, t176, t177, t178, t179, t180, t181, t182, t183, t184, t185, t186, t187, t188, t189, t190, t191, t192, t193, t194, t195, t196, t197, t198, t199, t200, t201, t202, t203, t204, t205, t206, t207, t208, t209, t210, t211, t212, t213, t214, t215, t216, t217, t218, t219, t220, t221, t222, t223, t224, t225, t226, t227, t228, t229, t230, t231, t232, t233, t234, t235, t236, t237, t238, t239, t240, t241, t242, t243, t244, t245, t246], defers := [] } w7 := by
  obtain ⟨ap, acap, hu6, hac, hac2⟩ := hat.recs.form
  subst hu6
  obtain ⟨hwf, hdirt⟩ := hat.deeds.2 dd hmem
  have HWF := Lib.hid hwf
  have HDT := Lib.hid hdirt
  have HAT := Lib.hid hat
  have HOK := Lib.hid hok
  have HK := Lib.hid hK
  clear hat hok hK hwf hdirt
  unfold code7a code7 Try.f3
  dsimp only [codeL, codeR, codeB, codeO, codeS]
  have hat := HAT.out
  have hok := HOK.out
  obtain ⟨q, dcap, hdv, _⟩ := id HDT.out
  have b0 : Blk c7 w7 pk (N + 1, 7) (deedCells dd) := hat.box
  unfold deedCells at b0
  rw [hdv] at b0
  have hseed := seed_in c7 w7 Y (N + 1) dd.k dd.t dd.p dd.s dd.b dd.a dd.i (.slice q dd.dirty.length dcap) dd.dirty (HWF.out).k (HWF.out).t (HWF.out).p (HWF.out).s (HWF.out).b (HWF.out).a (HWF.out).i (by rw [← hdv]; exact HDT.out) (HWF.out).d64 (by omega)
  have k2 : w7.cell? ⟨pk, 2, none⟩ = some (.int .i64 dd.k) := (b0.cell 2).trans rfl
  have k3 : w7.cell? ⟨pk, 3, none⟩ = some (.int .i64 dd.t) := (b0.cell 3).trans rfl
  have k4 : w7.cell? ⟨pk, 4, none⟩ = some (.int .i64 dd.p) := (b0.cell 4).trans rfl
  have k5 : w7.cell? ⟨pk, 5, none⟩ = some (.int .i64 dd.s) := (b0.cell 5).trans rfl
  have k6 : w7.cell? ⟨pk, 6, none⟩ = some (.int .u8 dd.b) := (b0.cell 6).trans rfl
  have k7 : w7.cell? ⟨pk, 7, none⟩ = some (.int .u8 dd.a) := (b0.cell 7).trans rfl
  have k8 : w7.cell? ⟨pk, 8, none⟩ = some (.int .u8 dd.i) := (b0.cell 8).trans rfl
  have k9 : w7.cell? ⟨pk, 9, none⟩ = some (.slice q dd.dirty.length dcap) := (b0.cell 9).trans rfl
  unfold seedCells at hseed
  have HSD := Lib.hid hseed
  have hgb := hok.inv.wf.b
  rw [hok.inv.b] at hgb
  have hcnt : rs.length ≤ 14336 := Nat.le_trans (encs_count rs) hgb
  clear hat hok b0 hseed hdv
  go_upto_region 17 with (go_at_call 13; refine (HSD.out).mono ?_; rintro e w8 ⟨r, dv, c8, rfl, hrok, hkd, hdt, hE⟩; have HRO := Lib.hid hrok; have HDR := Lib.hid hdt; have HAT8 := Lib.hid ((HAT.out).quiet hE); obtain ⟨rq, rcap, rfl, _⟩ := id hdt; unfold recCells; clear hrok hdt hE hkd HSD HAT k2 k3 k4 k5 k6 k7 k8 k9)
  have e9 := (Ext.refl (Obs []) c8 w8).alloc (.cells (recCells r (.slice rq r.dirty.length rcap)).toArray 33) (N + 1, 8)
  have b9 := Blk.new c8 w8 (recCells r (.slice rq r.dirty.length rcap)) 33 (N + 1, 8)
  have d9 := Rs.keep HDR.out e9 (fun q h => by simp [Obs] at h)
  have h9 := (HAT8.out).quiet e9
  generalize hc9 : setc c8 w8.heap.size (N + 1, 8) = c9 at b9 d9 h9
  generalize hpr : w8.heap.size = pr at b9 ⊢
  obtain ⟨w9, hw9⟩ : ∃ w9, w9 = w8.alloc (.cells (recCells r (.slice rq r.dirty.length rcap)).toArray 33) := ⟨_, rfl⟩
  rw [← hw9] at b9 d9 h9
  unfold recCells at hw9
  rw [← hw9]
  have happ := append_in c9 w9 d Z l (N + 1) L r HRO.out _ d9 h9.lane
  clear hw9 hpr hc9 e9 HAT8 HDR
  have k0 : w9.cell? ⟨pr, 0, none⟩ = some (Value.int .i64 (r.kind : Int)) := (b9.cell 0).trans rfl
  have k1 : w9.cell? ⟨pr, 1, none⟩ = some (Value.int .i64 (r.txn : Int)) := (b9.cell 1).trans rfl
  have k2 : w9.cell? ⟨pr, 2, none⟩ = some (Value.int .i64 (r.page : Int)) := (b9.cell 2).trans rfl
  have k3 : w9.cell? ⟨pr, 3, none⟩ = some (Value.int .i64 (r.slot : Int)) := (b9.cell 3).trans rfl
  have k4 : w9.cell? ⟨pr, 4, none⟩ = some (Value.string r.before) := (b9.cell 4).trans rfl
  have k5 : w9.cell? ⟨pr, 5, none⟩ = some (Value.string r.after) := (b9.cell 5).trans rfl
  have k6 : w9.cell? ⟨pr, 6, none⟩ = some (Value.string r.image) := (b9.cell 6).trans rfl
  have k7 : w9.cell? ⟨pr, 7, none⟩ = some (Value.slice rq r.dirty.length rcap) := (b9.cell 7).trans rfl
  unfold recCells at happ
  have HAP := Lib.hid happ
  have B9 := Lib.hid b9
  have D9 := Lib.hid d9
  have H9 := Lib.hid h9
  clear happ b9 d9 h9
  obtain ⟨A, hA⟩ : ∃ A, A = (encs rs).length := ⟨_, rfl⟩
  obtain ⟨Bn, hBn⟩ : ∃ Bn, Bn = (encB r).length := ⟨_, rfl⟩
  have hBn2 : Bn ≤ 1002 := by rw [hBn]; have := body_len r HRO.out; simp only [encB, List.length_append, be_len]; omega
  rw [← hA] at hgb
  have HA := Lib.hid hA
  have HBN := Lib.hid hBn
  have HB := Lib.hid ((HOK.out).inv.b)
  clear hA hBn
  by_cases hfit : A + Bn ≤ 14336
  · obtain ⟨ha1, ha2⟩ := (HOK.out).inv.app r HRO.out (by rw [(HOK.out).inv.b, ← HA.out, ← HBN.out]; exact hfit)
    have hap := HAP.out
    rw [ha1] at hap ha2
    obtain ⟨S, hS⟩ : ∃ S, S = A + Bn := ⟨_, rfl⟩
    have hws : IntKind.i64.wrap ((A : Int) + (Bn : Int)) = (S : Int) := by rw [IntWalk.i64_in _ ⟨by omega, by omega⟩]; omega
    have hS14 : (S : Int) ≤ 14336 := by omega
    clear hS
    have HAP2 := Lib.hid hap
    have HA2 := Lib.hid ha2
    clear ha1 ha2 hap HAP
    go_upto_region 18 with (go_at_call 14; refine (HAP2.out).mono ?_; rintro e w10 ⟨c10, rfl, hL, hE⟩; have B10 := Lib.hid ((B9.out).keep hE (fun h => by simp [Obs] at h; omega)); have D10 := Lib.hid (Rs.keep D9.out hE (fun q h => by simp [Obs] at h; omega)); have h10 := (H9.out); have HAT10 := Lib.hid (h10.lay hZ hfn (h10.disk.keep hE (fun q h => by simp [Obs] at h; omega)) hL (hE.obs (by simp))); clear hL hE h10 HAP2 B9 D9 H9 k0 k1 k2 k3 k4 k5 k6 k7)
    have hsz := size_in c10 w10.drew (N + 1) _ rs ((HAT10.out).recs.keep (Ext.refl (Obs []) c10 w10).drew (fun q h => by simp [Obs] at h)) (HOK.out).inv.ok (by rw [← HA.out]; omega)
    rw [← HA.out] at hsz
    have HSZ := Lib.hid hsz
    clear hsz
    refine X_begin [3] [5] (fun w' : World => ∃ c', Blk c' w' pr (N + 1, 8) (recCells r (.slice rq r.dirty.length rcap))) (by kernel_rfl) ?_
    refine X_pure 0 rfl (by kernel_rfl) (by kernel_rfl) (by kernel_rfl) (by kernel_rfl) (fun c a w h => hQp c a _ _ w h) rfl (by intro w; go_simp; first | done | with_reducible rfl) ?_
    try simp only [Act.put, List.setIfInBounds_toArray, List.set_cons_zero, List.set_cons_succ]
    refine X_pure 1 rfl (by kernel_rfl) (by kernel_rfl) (by kernel_rfl) (by kernel_rfl) (fun c a w h => hQp c a _ _ w h) rfl (by intro w; go_simp; first | done | with_reducible rfl) ?_
    try simp only [Act.put, List.setIfInBounds_toArray, List.set_cons_zero, List.set_cons_succ]
    refine X_pure 2 rfl (by kernel_rfl) (by kernel_rfl) (by kernel_rfl) (by kernel_rfl) (fun c a w h => hQp c a _ _ w h) rfl (by intro w; go_simp; first | done | with_reducible rfl) ?_
    try simp only [Act.put, List.setIfInBounds_toArray, List.set_cons_zero, List.set_cons_succ]
    refine X_held 4 rfl (by kernel_rfl) (by kernel_rfl) (by kernel_rfl) (by kernel_rfl) (by kernel_rfl) (fun c a w h => hQp c a _ _ w h) ⟨_, (B10.out).drew⟩ rfl (fun w' hS => hS.elim fun c' hb => load_agg_run 33 (.tmp 13) rfl pr 0 rfl (recCells r (.slice rq r.dirty.length rcap)) _ Try.underlying33 rfl (by kernel_rfl) (fun j u hj => by rw [Nat.zero_add]; exact hb.cell j ▸ hj)) ?_
    try simp only [Act.put, List.setIfInBounds_toArray, List.set_cons_zero, List.set_cons_succ]
    refine X_opS 3 rfl (by kernel_rfl) (by kernel_rfl) ?_
    go_wp2_with (go_at_call 15; refine (HSZ.out).mono ?_; rintro e w11 ⟨rfl, c11, hE⟩; have B11 := Lib.hid ((B10.out).drew.keep hE (fun h => by simp [Obs] at h)); have D11 := Lib.hid (Rs.keep (show Rs c10 w10.drew (N + 1) _ _ _ from D10.out) hE (fun q h => by simp [Obs] at h)); have HAT11 := Lib.hid (((HAT10.out).quiet (Ext.refl (Obs []) c10 w10).drew).quiet hE); clear hE HSZ B10 D10 HAT10)
    refine ⟨⟨_, B11.out⟩, ?_⟩
    try simp only [Act.put, List.setIfInBounds_toArray, List.set_cons_zero, List.set_cons_succ]
    have henc := encode_in c11 w11 (N + 1) r HRO.out _ D11.out (0, 2)
    have HEN := Lib.hid henc
    clear henc
    refine X_op 5 rfl (by kernel_rfl) (by kernel_rfl) (by kernel_rfl) ?_
    go_wp2_with (go_at_call 16; refine (HEN.out).mono ?_; rintro e w12 ⟨fv, c12, rfl, hO, hE⟩; obtain ⟨fp, fcap, rfl⟩ := hO.form; rw [← HBN.out]; have B12 := Lib.hid ((B11.out).keep hE (fun h => by simp [Obs] at h)); have D12 := Lib.hid (Rs.keep D11.out hE (fun q h => by simp [Obs] at h)); have HAT12 := Lib.hid ((HAT11.out).quiet hE); clear hO hE HEN B11 D11 HAT11)
    try simp only [Act.put, List.setIfInBounds_toArray, List.set_cons_zero, List.set_cons_succ]
    refine X_pure 6 rfl (by kernel_rfl) (by kernel_rfl) (by kernel_rfl) (by kernel_rfl) (fun c a w h => hQp c a _ _ w h) rfl (by intro w; go_simp; first | done | with_reducible rfl) ?_
    try simp only [Act.put, List.setIfInBounds_toArray, List.set_cons_zero, List.set_cons_succ]
    refine X_pure 7 rfl (by kernel_rfl) (by kernel_rfl) (by kernel_rfl) (by kernel_rfl) (fun c a w h => hQp c a _ _ w h) rfl (by intro w; go_simp; first | done | with_reducible rfl) ?_
    try simp only [Act.put, List.setIfInBounds_toArray, List.set_cons_zero, List.set_cons_succ]
    refine X_pure 8 rfl (by kernel_rfl) (by kernel_rfl) (by kernel_rfl) (by kernel_rfl) (fun c a w h => hQp c a _ _ w h) rfl (by intro w; go_simp; first | done | with_reducible rfl) ?_
    try simp only [Act.put, List.setIfInBounds_toArray, List.set_cons_zero, List.set_cons_succ]
    refine X_pure 9 rfl (by kernel_rfl) (by kernel_rfl) (by kernel_rfl) (by kernel_rfl) (fun c a w h => hQp c a _ _ w h) rfl (by intro w; go_simp; first | done | with_reducible rfl) ?_
    try simp only [Act.put, List.setIfInBounds_toArray, List.set_cons_zero, List.set_cons_succ]
    refine X_done (by kernel_rfl) ?_ _
    have hful := ((HAT12.out).recs.take rs.length (Nat.le_refl _))
    rw [take_self] at hful
    have HFU := Lib.hid (hful.keep (Ext.refl (Obs []) c12 w12).drew (fun q h => by simp [Obs] at h))
    have h13 := (HAT12.out).quiet (Ext.refl (Obs []) c12 w12).drew
    have H13 := Lib.hid h13
    have B13 := Lib.hid (B12.out).drew
    have D13 := Lib.hid (Rs.keep D12.out (Ext.refl (Obs []) c12 w12).drew (fun q h => by simp [Obs] at h))
    clear hful h13 B12 D12 HAT12
    obtain ⟨ir, hir, hr1, hr2, hr3⟩ := info_parts info_rec
    go_upto_region 21 with fail
    refine X_begin [] [7, 8] (fun _ => True) (by kernel_rfl) ?_
    generalize w12.drew = wd at HFU H13 B13 D13 ⊢
    refine X_pure 0 rfl (by kernel_rfl) (by kernel_rfl) (by kernel_rfl) (by kernel_rfl) (fun c a w h => hQp c a _ _ w h) rfl (by intro w; go_simp; first | done | with_reducible rfl) ?_
    try simp only [Act.put, List.setIfInBounds_toArray, List.set_cons_zero, List.set_cons_succ]
    refine X_pure 1 rfl (by kernel_rfl) (by kernel_rfl) (by kernel_rfl) (by kernel_rfl) (fun c a w h => hQp c a _ _ w h) rfl (by intro w; go_simp; first | done | with_reducible rfl) ?_
    try simp only [Act.put, List.setIfInBounds_toArray, List.set_cons_zero, List.set_cons_succ]
    refine X_pure 2 rfl (by kernel_rfl) (by kernel_rfl) (by kernel_rfl) (by kernel_rfl) (fun c a w h => hQp c a _ _ w h) rfl (by intro w; go_simp; first | done | with_reducible rfl) ?_
    try simp only [Act.put, List.setIfInBounds_toArray, List.set_cons_zero, List.set_cons_succ]
    refine X_pure 3 rfl (by kernel_rfl) (by kernel_rfl) (by kernel_rfl) (by kernel_rfl) (fun c a w h => hQp c a _ _ w h) rfl (by intro w; go_simp; first | done | with_reducible rfl) ?_
    try simp only [Act.put, List.setIfInBounds_toArray, List.set_cons_zero, List.set_cons_succ]
    refine X_pure 4 rfl (by kernel_rfl) (by kernel_rfl) (by kernel_rfl) (by kernel_rfl) (fun c a w h => hQp c a _ _ w h) rfl (by intro w; go_simp; first | done | with_reducible rfl) ?_
    try simp only [Act.put, List.setIfInBounds_toArray, List.set_cons_zero, List.set_cons_succ]
    refine X_pure 5 rfl (by kernel_rfl) (by kernel_rfl) (by kernel_rfl) (by kernel_rfl) (fun c a w h => hQp c a _ _ w h) rfl (by intro w; go_simp; first | done | with_reducible rfl) ?_
    try simp only [Act.put, List.setIfInBounds_toArray, List.set_cons_zero, List.set_cons_succ]
    refine X_still 6 rfl (by kernel_rfl) (by kernel_rfl) (by kernel_rfl) (by kernel_rfl) rfl (load_agg_run 33 (.tmp 13) rfl pr 0 rfl (recCells r (.slice rq r.dirty.length rcap)) _ Try.underlying33 rfl (by kernel_rfl) (fun j u hj => by rw [Nat.zero_add]; exact (B13.out).cell j ▸ hj)) ?_
    try simp only [Act.put, List.setIfInBounds_toArray, List.set_cons_zero, List.set_cons_succ]
    refine X_op 7 rfl (by kernel_rfl) (by kernel_rfl) (by kernel_rfl) ?_
    refine build_one rfl 34 (.tmp 84) rfl 33 ir _ 8 Try.underlying34 hir hr1 hr2 (by rfl) (by decide) (by decide) (recCells r (.slice rq r.dirty.length rcap)).toArray rfl (by rfl) ?_
    refine wpList_nil ?_
    have e14 := (Ext.refl (Obs []) c12 wd).alloc (.cells (recCells r (.slice rq r.dirty.length rcap)).toArray 33) (N + 1, 9)
    have b14 := Blk.new c12 wd (recCells r (.slice rq r.dirty.length rcap)) 33 (N + 1, 9)
    have h14 := (H13.out).quiet e14
    have d14 := Rs.keep D13.out e14 (fun q h => by simp [Obs] at h)
    have f14 := (HFU.out).keep e14 (fun q h => by simp [Obs] at h)
    generalize setc c12 wd.heap.size (N + 1, 9) = c14 at b14 h14 d14 f14
    generalize wd.alloc (.cells (recCells r (.slice rq r.dirty.length rcap)).toArray 33) = w14 at b14 h14 d14 f14 ⊢
    generalize wd.heap.size = p14 at b14 ⊢
    have H14 := Lib.hid h14
    have B14 := Lib.hid b14
    have D14 := Lib.hid d14
    have F14 := Lib.hid f14
    clear e14 b14 h14 d14 f14 HFU H13 B13 D13
    try simp only [Act.put, List.setIfInBounds_toArray, List.set_cons_zero, List.set_cons_succ]
    refine X_op 8 rfl (by kernel_rfl) (by kernel_rfl) (by kernel_rfl) ?_
    obtain ⟨ps, hps, hrs, hdt⟩ := F14.out
    refine append_full rfl (.tmp 83) (.tmp 85) 34 34 rfl 33 ir _ 8 104 Try.underlying34 hir hr1 hr2 hr3 (by rfl) (by decide) c14 (N + 1) ap rs.length (ps.flatMap fun p => recCells p.1 p.2) rfl hrs (by rw [recs_len, ← hps, List.length_map]) (N + 1, 0)
      _ rfl 1 (recCells r (.slice rq r.dirty.length rcap)) (cells_src p14 0 1 1 8 _ _ 33 Try.underlying34 (by rfl) (by intro j v hj; rw [Nat.zero_add]; exact (B14.out).cell j ▸ hj) (one_recCells r _ rfl)) (by decide) (by unfold maxLen; omega) (by omega) ?_
    intro v15 w15 c15 hSl hE
    refine wpList_nil ?_
    have hR15 : Recs c15 w15 (N + 1) v15 (rs ++ [r]) := by
      refine Recs.mk' (q := 0) (n := rs.length + 1) (ps := ps ++ [(r, .slice rq r.dirty.length rcap)]) (by rw [List.map_append, hps]; rfl) (by rw [List.flatMap_append]; simpa using hSl) (fun p hp => ?_)
      rcases List.mem_append.1 hp with hp | hp
      · exact Rs.keep (hdt p hp) hE (fun q h => by simp [Obs] at h)
      · rw [List.mem_singleton] at hp; rw [hp]; exact Rs.keep D14.out hE (fun q h => by simp [Obs] at h)
    have h15 := ((H14.out).quiet hE).all hR15
    have H15 := Lib.hid h15
    clear hps hrs hdt hSl hE hR15 h15 H14 B14 D14 F14
    try simp only [Act.put, List.setIfInBounds_toArray, List.set_cons_zero, List.set_cons_succ]
    refine X_pure 9 rfl (by kernel_rfl) (by kernel_rfl) (by kernel_rfl) (by kernel_rfl) (fun c a w h => hQp c a _ _ w h) rfl (by intro w; go_simp; first | done | with_reducible rfl) ?_
    try simp only [Act.put, List.setIfInBounds_toArray, List.set_cons_zero, List.set_cons_succ]
    refine X_done (by kernel_rfl) ?_ _
    go_wp2_with fail
    exact HK.out _ _ _ _ _ _ _ _ _ _ _ _ _ _ _ _ _ _ _ _ _ _ _ _ _ _ _ _ _ _ _ _ _ _ _ _ _ _ _ _ _ _ _ _ _ _ _ _ _ _ _ _ _ _ _ _ _ _ _ _ _ _ _ _ _ _ _ _ _ _ _ _ _ _ _ _ _ _ _ _ _ _ _ _ _ _ _ _ _ _ _ _ _ _ _ _ _ _ _ _ _ _ _ _ _ _ _ _ _ _ _ _ _ _ _ _ _ _ _ _ _ _ _ _ _ _ _ _ _ _ _ _ _ _ _ _ _ _ _ _ _ _ _ ⟨c15, Z, _, _, rs ++ [r], hZ, H15.out, .inl ⟨rfl, rfl, ⟨HA2.out, (HOK.out).r, (HOK.out).dn, (HOK.out).size, Nat.le_succ_of_le (HOK.out).gen⟩⟩⟩
  · have ha1 : append L r = (L, 0, 7) := by
      unfold append
      rw [if_neg (by rw [HB.out, ← HA.out, ← HBN.out]; exact hfit)]
    have hap := HAP.out
    rw [ha1] at hap
    obtain ⟨S, hS⟩ : ∃ S, S = A + Bn := ⟨_, rfl⟩
    have hws : IntKind.i64.wrap ((A : Int) + (Bn : Int)) = (S : Int) := by rw [IntWalk.i64_in _ ⟨by omega, by omega⟩]; omega
    have hS14 : 14336 < S := by omega
    have HAP2 := Lib.hid hap
    clear ha1 hap HAP hS
    go_upto_region 18 with (go_at_call 14; refine (HAP2.out).mono ?_; rintro e w10 ⟨c10, rfl, hL, hE⟩; have B10 := Lib.hid ((B9.out).keep hE (fun h => by simp [Obs] at h; omega)); have D10 := Lib.hid (Rs.keep D9.out hE (fun q h => by simp [Obs] at h; omega)); have h10 := (H9.out); have HAT10 := Lib.hid (h10.lay hZ hfn (h10.disk.keep hE (fun q h => by simp [Obs] at h; omega)) hL (hE.obs (by simp))); clear hL hE h10 HAP2 B9 D9 H9 k0 k1 k2 k3 k4 k5 k6 k7)
    have hsz := size_in c10 w10.drew (N + 1) _ rs ((HAT10.out).recs.keep (Ext.refl (Obs []) c10 w10).drew (fun q h => by simp [Obs] at h)) (HOK.out).inv.ok (by rw [← HA.out]; omega)
    rw [← HA.out] at hsz
    have HSZ := Lib.hid hsz
    clear hsz
    refine X_begin [3] [5] (fun w' : World => ∃ c', Blk c' w' pr (N + 1, 8) (recCells r (.slice rq r.dirty.length rcap))) (by kernel_rfl) ?_
    refine X_pure 0 rfl (by kernel_rfl) (by kernel_rfl) (by kernel_rfl) (by kernel_rfl) (fun c a w h => hQp c a _ _ w h) rfl (by intro w; go_simp; first | done | with_reducible rfl) ?_
    try simp only [Act.put, List.setIfInBounds_toArray, List.set_cons_zero, List.set_cons_succ]
    refine X_pure 1 rfl (by kernel_rfl) (by kernel_rfl) (by kernel_rfl) (by kernel_rfl) (fun c a w h => hQp c a _ _ w h) rfl (by intro w; go_simp; first | done | with_reducible rfl) ?_
    try simp only [Act.put, List.setIfInBounds_toArray, List.set_cons_zero, List.set_cons_succ]
    refine X_pure 2 rfl (by kernel_rfl) (by kernel_rfl) (by kernel_rfl) (by kernel_rfl) (fun c a w h => hQp c a _ _ w h) rfl (by intro w; go_simp; first | done | with_reducible rfl) ?_
    try simp only [Act.put, List.setIfInBounds_toArray, List.set_cons_zero, List.set_cons_succ]
    refine X_held 4 rfl (by kernel_rfl) (by kernel_rfl) (by kernel_rfl) (by kernel_rfl) (by kernel_rfl) (fun c a w h => hQp c a _ _ w h) ⟨_, (B10.out).drew⟩ rfl (fun w' hS => hS.elim fun c' hb => load_agg_run 33 (.tmp 13) rfl pr 0 rfl (recCells r (.slice rq r.dirty.length rcap)) _ Try.underlying33 rfl (by kernel_rfl) (fun j u hj => by rw [Nat.zero_add]; exact hb.cell j ▸ hj)) ?_
    try simp only [Act.put, List.setIfInBounds_toArray, List.set_cons_zero, List.set_cons_succ]
    refine X_opS 3 rfl (by kernel_rfl) (by kernel_rfl) ?_
    go_wp2_with (go_at_call 15; refine (HSZ.out).mono ?_; rintro e w11 ⟨rfl, c11, hE⟩; have B11 := Lib.hid ((B10.out).drew.keep hE (fun h => by simp [Obs] at h)); have D11 := Lib.hid (Rs.keep (show Rs c10 w10.drew (N + 1) _ _ _ from D10.out) hE (fun q h => by simp [Obs] at h)); have HAT11 := Lib.hid (((HAT10.out).quiet (Ext.refl (Obs []) c10 w10).drew).quiet hE); clear hE HSZ B10 D10 HAT10)
    refine ⟨⟨_, B11.out⟩, ?_⟩
    try simp only [Act.put, List.setIfInBounds_toArray, List.set_cons_zero, List.set_cons_succ]
    have henc := encode_in c11 w11 (N + 1) r HRO.out _ D11.out (0, 2)
    have HEN := Lib.hid henc
    clear henc
    refine X_op 5 rfl (by kernel_rfl) (by kernel_rfl) (by kernel_rfl) ?_
    go_wp2_with (go_at_call 16; refine (HEN.out).mono ?_; rintro e w12 ⟨fv, c12, rfl, hO, hE⟩; obtain ⟨fp, fcap, rfl⟩ := hO.form; rw [← HBN.out]; have HAT12 := Lib.hid ((HAT11.out).quiet hE); clear hO hE HEN B11 D11 HAT11)
    try simp only [Act.put, List.setIfInBounds_toArray, List.set_cons_zero, List.set_cons_succ]
    refine X_pure 6 rfl (by kernel_rfl) (by kernel_rfl) (by kernel_rfl) (by kernel_rfl) (fun c a w h => hQp c a _ _ w h) rfl (by intro w; go_simp; first | done | with_reducible rfl) ?_
    try simp only [Act.put, List.setIfInBounds_toArray, List.set_cons_zero, List.set_cons_succ]
    refine X_pure 7 rfl (by kernel_rfl) (by kernel_rfl) (by kernel_rfl) (by kernel_rfl) (fun c a w h => hQp c a _ _ w h) rfl (by intro w; go_simp; first | done | with_reducible rfl) ?_
    try simp only [Act.put, List.setIfInBounds_toArray, List.set_cons_zero, List.set_cons_succ]
    refine X_pure 8 rfl (by kernel_rfl) (by kernel_rfl) (by kernel_rfl) (by kernel_rfl) (fun c a w h => hQp c a _ _ w h) rfl (by intro w; go_simp; first | done | with_reducible rfl) ?_
    try simp only [Act.put, List.setIfInBounds_toArray, List.set_cons_zero, List.set_cons_succ]
    refine X_pure 9 rfl (by kernel_rfl) (by kernel_rfl) (by kernel_rfl) (by kernel_rfl) (fun c a w h => hQp c a _ _ w h) rfl (by intro w; go_simp; first | done | with_reducible rfl) ?_
    try simp only [Act.put, List.setIfInBounds_toArray, List.set_cons_zero, List.set_cons_succ]
    refine X_done (by kernel_rfl) ?_ _
    go_wp2_with fail
    exact HK.out _ _ _ _ _ _ _ _ _ _ _ _ _ _ _ _ _ _ _ _ _ _ _ _ _ _ _ _ _ _ _ _ _ _ _ _ _ _ _ _ _ _ _ _ _ _ _ _ _ _ _ _ _ _ _ _ _ _ _ _ _ _ _ _ _ _ _ _ _ _ _ _ _ _ _ _ _ _ _ _ _ _ _ _ _ _ _ _ _ _ _ _ _ _ _ _ _ _ _ _ _ _ _ _ _ _ _ _ _ _ _ _ _ _ _ _ _ _ _ _ _ _ _ _ _ _ _ _ _ _ _ _ _ _ _ _ _ _ _ _ _ _ _ ⟨c12, Z, _, _, rs, hZ, HAT12.out, .inl ⟨rfl, rfl, (HOK.out).succ⟩⟩
end Go.Proofs.Ytfeacmlnlljnnaa
