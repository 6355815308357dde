/- layer 12's law: any call of both rigs but SetReg. -/
import Derived.Test.YtocpppegmepolaaRv
set_option linter.unusedVariables false
set_option linter.unusedSimpArgs false
namespace Go.Proofs.Ytocpppegmepolaa
open Go.RowKit
attribute [local go_sem ↓] Go.wp_at_zero Go.wp_at_succ
section
variable {w w' : World} {p q : Spots} {σ τ : RigS}
theorem DoP.alloc {W : World} {e : Ending} (hk : Kp No w W) (h : DoP W p q σ τ e w') : DoP w p q σ τ e w' := by
  obtain ⟨b, σ', τ', h1, h2, h3, h4, h5, h6⟩ := h
  exact ⟨b, σ', τ', h1, h2, h3, h4, h5, hk.no.trans' h6⟩

set_option maxRecDepth 100000 in
set_option maxHeartbeats 4000000 in
theorem do_k0 (a : LAct) (h : Pr w p q σ τ) (hkd : a.kd = 0) (hs : a.s.size < 300) (ha : a.ok (FF p q) w) (hc : σ.calls ≤ 1000000000) (hc2 : τ.calls ≤ 1000000000) :
    Calls Try.prog 30 #[.pointer (some ⟨p.b, 0, none⟩), .pointer (some ⟨q.b, 0, none⟩), a.val] w (DoP w p q σ τ) := by
  have hlt := h.lt
  obtain ⟨kd, d, i, m, s, raw, ⟨xv, xk, xt, xb⟩, ⟨yv, yk, yt, yb⟩⟩ := a
  obtain rfl : kd = 0 := hkd
  have hs' : s.size < 300 := hs
  show Calls Try.prog 30 #[.pointer (some ⟨p.b, 0, none⟩), .pointer (some ⟨q.b, 0, none⟩), .agg #[.int .i64 0, .int .i64 d, .int .i64 i, .int .i64 m, .string s, .bool raw, xv, .int .i64 xt, .int .i64 xb, yv, .int .i64 yt, .int .i64 yb]] w _
  obtain ⟨W, hW⟩ : ∃ W, W = w.alloc (.cells #[.int .i64 0, .int .i64 d, .int .i64 i, .int .i64 m, .string s, .bool raw, xv, .int .i64 xt, .int .i64 xb, yv, .int .i64 yt, .int .i64 yb] 34) := ⟨_, rfl⟩
  have hbx : W.heap[w.heap.size]? = some (.cells #[.int .i64 0, .int .i64 d, .int .i64 i, .int .i64 m, .string s, .bool raw, xv, .int .i64 xt, .int .i64 xb, yv, .int .i64 yt, .int .i64 yb] 34 (0, 0)) := by rw [hW]; exact heap_new w _
  have hkW : Kp No w W := by rw [hW]; exact (Kp.refl _ _).alloc _
  have HP := Lib.hid (h.no hkW)
  have nH : ¬ FF p q w.heap.size := fun x => by have := hlt _ x; omega
  have NH := Lib.hid nH
  have HK := Lib.hid hkW
  have HX := Lib.hid hbx
  have HW := Lib.hid hW
  have HC : Hid (Calls Try.prog 118 #[.pointer (some ⟨p.b, 0, none⟩), .pointer (some ⟨q.b, 0, none⟩), .agg #[.int .i64 0, .int .i64 d, .int .i64 i, .int .i64 m, .string s, .bool raw, xv, .int .i64 xt, .int .i64 xb, yv, .int .i64 yt, .int .i64 yb]] W (DoP W p q σ τ)) := Lib.hid (writes_any ⟨0, d, i, m, s, raw, ⟨xv, xk, xt, xb⟩, ⟨yv, yk, yt, yb⟩⟩ HP.out hs hc hc2)
  clear h hlt nH hbx hkW hW ha hs
  go_enter Try.func30, Try.ntmps30
  go_wp2_with fail
  rw [← HW.out]
  refine HC.out.mono ?_
  rintro e w3 ⟨b, σ', τ', rfl, h3, e1, e2, e3, k3⟩
  have HP3 := Lib.hid h3
  have K3 := Lib.hid k3
  have E1 := Lib.hid e1
  have E2 := Lib.hid e2
  have E3 := Lib.hid e3
  clear h3 k3 e1 e2 e3 HC HP HX HW
  go_wp2
  go_ret
  exact ⟨b, σ', τ', rfl, HP3.out, E1.out, E2.out, E3.out, HK.out.no.trans' K3.out⟩

set_option maxRecDepth 100000 in
set_option maxHeartbeats 4000000 in
theorem do_k1 (a : LAct) (h : Pr w p q σ τ) (hkd : a.kd = 1) (hs : a.s.size < 300) (ha : a.ok (FF p q) w) (hc : σ.calls ≤ 1000000000) (hc2 : τ.calls ≤ 1000000000) :
    Calls Try.prog 30 #[.pointer (some ⟨p.b, 0, none⟩), .pointer (some ⟨q.b, 0, none⟩), a.val] w (DoP w p q σ τ) := by
  have hlt := h.lt
  obtain ⟨kd, d, i, m, s, raw, ⟨xv, xk, xt, xb⟩, ⟨yv, yk, yt, yb⟩⟩ := a
  obtain rfl : kd = 1 := hkd
  have hs' : s.size < 300 := hs
  show Calls Try.prog 30 #[.pointer (some ⟨p.b, 0, none⟩), .pointer (some ⟨q.b, 0, none⟩), .agg #[.int .i64 1, .int .i64 d, .int .i64 i, .int .i64 m, .string s, .bool raw, xv, .int .i64 xt, .int .i64 xb, yv, .int .i64 yt, .int .i64 yb]] w _
  obtain ⟨W, hW⟩ : ∃ W, W = w.alloc (.cells #[.int .i64 1, .int .i64 d, .int .i64 i, .int .i64 m, .string s, .bool raw, xv, .int .i64 xt, .int .i64 xb, yv, .int .i64 yt, .int .i64 yb] 34) := ⟨_, rfl⟩
  have hbx : W.heap[w.heap.size]? = some (.cells #[.int .i64 1, .int .i64 d, .int .i64 i, .int .i64 m, .string s, .bool raw, xv, .int .i64 xt, .int .i64 xb, yv, .int .i64 yt, .int .i64 yb] 34 (0, 0)) := by rw [hW]; exact heap_new w _
  have hkW : Kp No w W := by rw [hW]; exact (Kp.refl _ _).alloc _
  have HP := Lib.hid (h.no hkW)
  have nH : ¬ FF p q w.heap.size := fun x => by have := hlt _ x; omega
  have NH := Lib.hid nH
  have HK := Lib.hid hkW
  have HX := Lib.hid hbx
  have HW := Lib.hid hW
  have HC : Hid (Calls Try.prog 118 #[.pointer (some ⟨p.b, 0, none⟩), .pointer (some ⟨q.b, 0, none⟩), .agg #[.int .i64 1, .int .i64 d, .int .i64 i, .int .i64 m, .string s, .bool raw, xv, .int .i64 xt, .int .i64 xb, yv, .int .i64 yt, .int .i64 yb]] W (DoP W p q σ τ)) := Lib.hid (writes_any ⟨1, d, i, m, s, raw, ⟨xv, xk, xt, xb⟩, ⟨yv, yk, yt, yb⟩⟩ HP.out hs hc hc2)
  clear h hlt nH hbx hkW hW ha hs
  go_enter Try.func30, Try.ntmps30
  go_wp2_with fail
  rw [← HW.out]
  refine HC.out.mono ?_
  rintro e w3 ⟨b, σ', τ', rfl, h3, e1, e2, e3, k3⟩
  have HP3 := Lib.hid h3
  have K3 := Lib.hid k3
  have E1 := Lib.hid e1
  have E2 := Lib.hid e2
  have E3 := Lib.hid e3
  clear h3 k3 e1 e2 e3 HC HP HX HW
  go_wp2
  go_ret
  exact ⟨b, σ', τ', rfl, HP3.out, E1.out, E2.out, E3.out, HK.out.no.trans' K3.out⟩

set_option maxRecDepth 100000 in
set_option maxHeartbeats 4000000 in
theorem do_k2 (a : LAct) (h : Pr w p q σ τ) (hkd : a.kd = 2) (hs : a.s.size < 300) (ha : a.ok (FF p q) w) (hc : σ.calls ≤ 1000000000) (hc2 : τ.calls ≤ 1000000000) :
    Calls Try.prog 30 #[.pointer (some ⟨p.b, 0, none⟩), .pointer (some ⟨q.b, 0, none⟩), a.val] w (DoP w p q σ τ) := by
  have hlt := h.lt
  obtain ⟨kd, d, i, m, s, raw, ⟨xv, xk, xt, xb⟩, ⟨yv, yk, yt, yb⟩⟩ := a
  obtain rfl : kd = 2 := hkd
  have hs' : s.size < 300 := hs
  show Calls Try.prog 30 #[.pointer (some ⟨p.b, 0, none⟩), .pointer (some ⟨q.b, 0, none⟩), .agg #[.int .i64 2, .int .i64 d, .int .i64 i, .int .i64 m, .string s, .bool raw, xv, .int .i64 xt, .int .i64 xb, yv, .int .i64 yt, .int .i64 yb]] w _
  obtain ⟨W, hW⟩ : ∃ W, W = w.alloc (.cells #[.int .i64 2, .int .i64 d, .int .i64 i, .int .i64 m, .string s, .bool raw, xv, .int .i64 xt, .int .i64 xb, yv, .int .i64 yt, .int .i64 yb] 34) := ⟨_, rfl⟩
  have hbx : W.heap[w.heap.size]? = some (.cells #[.int .i64 2, .int .i64 d, .int .i64 i, .int .i64 m, .string s, .bool raw, xv, .int .i64 xt, .int .i64 xb, yv, .int .i64 yt, .int .i64 yb] 34 (0, 0)) := by rw [hW]; exact heap_new w _
  have hkW : Kp No w W := by rw [hW]; exact (Kp.refl _ _).alloc _
  have HP := Lib.hid (h.no hkW)
  have nH : ¬ FF p q w.heap.size := fun x => by have := hlt _ x; omega
  have NH := Lib.hid nH
  have HK := Lib.hid hkW
  have HX := Lib.hid hbx
  have HW := Lib.hid hW
  have HC : Hid (Calls Try.prog 118 #[.pointer (some ⟨p.b, 0, none⟩), .pointer (some ⟨q.b, 0, none⟩), .agg #[.int .i64 2, .int .i64 d, .int .i64 i, .int .i64 m, .string s, .bool raw, xv, .int .i64 xt, .int .i64 xb, yv, .int .i64 yt, .int .i64 yb]] W (DoP W p q σ τ)) := Lib.hid (writes_any ⟨2, d, i, m, s, raw, ⟨xv, xk, xt, xb⟩, ⟨yv, yk, yt, yb⟩⟩ HP.out hs hc hc2)
  clear h hlt nH hbx hkW hW ha hs
  go_enter Try.func30, Try.ntmps30
  go_wp2_with fail
  rw [← HW.out]
  refine HC.out.mono ?_
  rintro e w3 ⟨b, σ', τ', rfl, h3, e1, e2, e3, k3⟩
  have HP3 := Lib.hid h3
  have K3 := Lib.hid k3
  have E1 := Lib.hid e1
  have E2 := Lib.hid e2
  have E3 := Lib.hid e3
  clear h3 k3 e1 e2 e3 HC HP HX HW
  go_wp2
  go_ret
  exact ⟨b, σ', τ', rfl, HP3.out, E1.out, E2.out, E3.out, HK.out.no.trans' K3.out⟩

set_option maxRecDepth 100000 in
set_option maxHeartbeats 4000000 in
theorem do_k6 (a : LAct) (h : Pr w p q σ τ) (hkd : a.kd = 6) (hs : a.s.size < 300) (ha : a.ok (FF p q) w) (hc : σ.calls ≤ 1000000000) (hc2 : τ.calls ≤ 1000000000) :
    Calls Try.prog 30 #[.pointer (some ⟨p.b, 0, none⟩), .pointer (some ⟨q.b, 0, none⟩), a.val] w (DoP w p q σ τ) := by
  have hlt := h.lt
  obtain ⟨kd, d, i, m, s, raw, ⟨xv, xk, xt, xb⟩, ⟨yv, yk, yt, yb⟩⟩ := a
  obtain rfl : kd = 6 := hkd
  have hs' : s.size < 300 := hs
  show Calls Try.prog 30 #[.pointer (some ⟨p.b, 0, none⟩), .pointer (some ⟨q.b, 0, none⟩), .agg #[.int .i64 6, .int .i64 d, .int .i64 i, .int .i64 m, .string s, .bool raw, xv, .int .i64 xt, .int .i64 xb, yv, .int .i64 yt, .int .i64 yb]] w _
  obtain ⟨W, hW⟩ : ∃ W, W = w.alloc (.cells #[.int .i64 6, .int .i64 d, .int .i64 i, .int .i64 m, .string s, .bool raw, xv, .int .i64 xt, .int .i64 xb, yv, .int .i64 yt, .int .i64 yb] 34) := ⟨_, rfl⟩
  have hbx : W.heap[w.heap.size]? = some (.cells #[.int .i64 6, .int .i64 d, .int .i64 i, .int .i64 m, .string s, .bool raw, xv, .int .i64 xt, .int .i64 xb, yv, .int .i64 yt, .int .i64 yb] 34 (0, 0)) := by rw [hW]; exact heap_new w _
  have hkW : Kp No w W := by rw [hW]; exact (Kp.refl _ _).alloc _
  have HP := Lib.hid (h.no hkW)
  have nH : ¬ FF p q w.heap.size := fun x => by have := hlt _ x; omega
  have NH := Lib.hid nH
  have HK := Lib.hid hkW
  have HX := Lib.hid hbx
  have HW := Lib.hid hW
  have HC : Hid (Calls Try.prog 121 #[.pointer (some ⟨p.b, 0, none⟩), .pointer (some ⟨q.b, 0, none⟩), .agg #[.int .i64 6, .int .i64 d, .int .i64 i, .int .i64 m, .string s, .bool raw, xv, .int .i64 xt, .int .i64 xb, yv, .int .i64 yt, .int .i64 yb]] W (DoP W p q σ τ)) := Lib.hid (regs_any ⟨6, d, i, m, s, raw, ⟨xv, xk, xt, xb⟩, ⟨yv, yk, yt, yb⟩⟩ HP.out rfl hc hc2)
  clear h hlt nH hbx hkW hW ha hs
  go_enter Try.func30, Try.ntmps30
  go_wp2_with fail
  rw [← HW.out]
  refine HC.out.mono ?_
  rintro e w3 ⟨b, σ', τ', rfl, h3, e1, e2, e3, k3⟩
  have HP3 := Lib.hid h3
  have K3 := Lib.hid k3
  have E1 := Lib.hid e1
  have E2 := Lib.hid e2
  have E3 := Lib.hid e3
  clear h3 k3 e1 e2 e3 HC HP HX HW
  go_wp2
  go_ret
  exact ⟨b, σ', τ', rfl, HP3.out, E1.out, E2.out, E3.out, HK.out.no.trans' K3.out⟩

set_option maxRecDepth 100000 in
set_option maxHeartbeats 4000000 in
theorem do_k9 (a : LAct) (h : Pr w p q σ τ) (hkd : a.kd = 9) (hs : a.s.size < 300) (ha : a.ok (FF p q) w) (hc : σ.calls ≤ 1000000000) (hc2 : τ.calls ≤ 1000000000) :
    Calls Try.prog 30 #[.pointer (some ⟨p.b, 0, none⟩), .pointer (some ⟨q.b, 0, none⟩), a.val] w (DoP w p q σ τ) := by
  have hlt := h.lt
  obtain ⟨kd, d, i, m, s, raw, ⟨xv, xk, xt, xb⟩, ⟨yv, yk, yt, yb⟩⟩ := a
  obtain rfl : kd = 9 := hkd
  have hs' : s.size < 300 := hs
  show Calls Try.prog 30 #[.pointer (some ⟨p.b, 0, none⟩), .pointer (some ⟨q.b, 0, none⟩), .agg #[.int .i64 9, .int .i64 d, .int .i64 i, .int .i64 m, .string s, .bool raw, xv, .int .i64 xt, .int .i64 xb, yv, .int .i64 yt, .int .i64 yb]] w _
  obtain ⟨W, hW⟩ : ∃ W, W = w.alloc (.cells #[.int .i64 9, .int .i64 d, .int .i64 i, .int .i64 m, .string s, .bool raw, xv, .int .i64 xt, .int .i64 xb, yv, .int .i64 yt, .int .i64 yb] 34) := ⟨_, rfl⟩
  have hbx : W.heap[w.heap.size]? = some (.cells #[.int .i64 9, .int .i64 d, .int .i64 i, .int .i64 m, .string s, .bool raw, xv, .int .i64 xt, .int .i64 xb, yv, .int .i64 yt, .int .i64 yb] 34 (0, 0)) := by rw [hW]; exact heap_new w _
  have hkW : Kp No w W := by rw [hW]; exact (Kp.refl _ _).alloc _
  have HP := Lib.hid (h.no hkW)
  have nH : ¬ FF p q w.heap.size := fun x => by have := hlt _ x; omega
  have NH := Lib.hid nH
  have HK := Lib.hid hkW
  have HX := Lib.hid hbx
  have HW := Lib.hid hW
  have HC : Hid (Calls Try.prog 124 #[.pointer (some ⟨p.b, 0, none⟩), .pointer (some ⟨q.b, 0, none⟩), .agg #[.int .i64 9, .int .i64 d, .int .i64 i, .int .i64 m, .string s, .bool raw, xv, .int .i64 xt, .int .i64 xb, yv, .int .i64 yt, .int .i64 yb]] W (DoP W p q σ τ)) := Lib.hid (comes9_any ⟨9, d, i, m, s, raw, ⟨xv, xk, xt, xb⟩, ⟨yv, yk, yt, yb⟩⟩ HP.out rfl hs)
  clear h hlt nH hbx hkW hW ha hs
  go_enter Try.func30, Try.ntmps30
  go_wp2_with fail
  rw [← HW.out]
  refine HC.out.mono ?_
  rintro e w3 ⟨b, σ', τ', rfl, h3, e1, e2, e3, k3⟩
  have HP3 := Lib.hid h3
  have K3 := Lib.hid k3
  have E1 := Lib.hid e1
  have E2 := Lib.hid e2
  have E3 := Lib.hid e3
  clear h3 k3 e1 e2 e3 HC HP HX HW
  go_wp2
  go_ret
  exact ⟨b, σ', τ', rfl, HP3.out, E1.out, E2.out, E3.out, HK.out.no.trans' K3.out⟩

set_option maxRecDepth 100000 in
set_option maxHeartbeats 4000000 in
theorem do_k10 (a : LAct) (h : Pr w p q σ τ) (hkd : a.kd = 10) (hs : a.s.size < 300) (ha : a.ok (FF p q) w) (hc : σ.calls ≤ 1000000000) (hc2 : τ.calls ≤ 1000000000) :
    Calls Try.prog 30 #[.pointer (some ⟨p.b, 0, none⟩), .pointer (some ⟨q.b, 0, none⟩), a.val] w (DoP w p q σ τ) := by
  have hlt := h.lt
  obtain ⟨kd, d, i, m, s, raw, ⟨xv, xk, xt, xb⟩, ⟨yv, yk, yt, yb⟩⟩ := a
  obtain rfl : kd = 10 := hkd
  have hs' : s.size < 300 := hs
  show Calls Try.prog 30 #[.pointer (some ⟨p.b, 0, none⟩), .pointer (some ⟨q.b, 0, none⟩), .agg #[.int .i64 10, .int .i64 d, .int .i64 i, .int .i64 m, .string s, .bool raw, xv, .int .i64 xt, .int .i64 xb, yv, .int .i64 yt, .int .i64 yb]] w _
  obtain ⟨W, hW⟩ : ∃ W, W = w.alloc (.cells #[.int .i64 10, .int .i64 d, .int .i64 i, .int .i64 m, .string s, .bool raw, xv, .int .i64 xt, .int .i64 xb, yv, .int .i64 yt, .int .i64 yb] 34) := ⟨_, rfl⟩
  have hbx : W.heap[w.heap.size]? = some (.cells #[.int .i64 10, .int .i64 d, .int .i64 i, .int .i64 m, .string s, .bool raw, xv, .int .i64 xt, .int .i64 xb, yv, .int .i64 yt, .int .i64 yb] 34 (0, 0)) := by rw [hW]; exact heap_new w _
  have hkW : Kp No w W := by rw [hW]; exact (Kp.refl _ _).alloc _
  have HP := Lib.hid (h.no hkW)
  have nH : ¬ FF p q w.heap.size := fun x => by have := hlt _ x; omega
  have NH := Lib.hid nH
  have HK := Lib.hid hkW
  have HX := Lib.hid hbx
  have HW := Lib.hid hW
  have HC : Hid (Calls Try.prog 124 #[.pointer (some ⟨p.b, 0, none⟩), .pointer (some ⟨q.b, 0, none⟩), .agg #[.int .i64 10, .int .i64 d, .int .i64 i, .int .i64 m, .string s, .bool raw, xv, .int .i64 xt, .int .i64 xb, yv, .int .i64 yt, .int .i64 yb]] W (DoP W p q σ τ)) := Lib.hid (comes10_any ⟨10, d, i, m, s, raw, ⟨xv, xk, xt, xb⟩, ⟨yv, yk, yt, yb⟩⟩ HP.out rfl)
  clear h hlt nH hbx hkW hW ha hs
  go_enter Try.func30, Try.ntmps30
  go_wp2_with fail
  rw [← HW.out]
  refine HC.out.mono ?_
  rintro e w3 ⟨b, σ', τ', rfl, h3, e1, e2, e3, k3⟩
  have HP3 := Lib.hid h3
  have K3 := Lib.hid k3
  have E1 := Lib.hid e1
  have E2 := Lib.hid e2
  have E3 := Lib.hid e3
  clear h3 k3 e1 e2 e3 HC HP HX HW
  go_wp2
  go_ret
  exact ⟨b, σ', τ', rfl, HP3.out, E1.out, E2.out, E3.out, HK.out.no.trans' K3.out⟩

set_option maxRecDepth 100000 in
set_option maxHeartbeats 4000000 in
theorem do_k11 (a : LAct) (h : Pr w p q σ τ) (hkd : a.kd = 11) (hs : a.s.size < 300) (ha : a.ok (FF p q) w) (hc : σ.calls ≤ 1000000000) (hc2 : τ.calls ≤ 1000000000) :
    Calls Try.prog 30 #[.pointer (some ⟨p.b, 0, none⟩), .pointer (some ⟨q.b, 0, none⟩), a.val] w (DoP w p q σ τ) := by
  have hlt := h.lt
  obtain ⟨kd, d, i, m, s, raw, ⟨xv, xk, xt, xb⟩, ⟨yv, yk, yt, yb⟩⟩ := a
  obtain rfl : kd = 11 := hkd
  have hs' : s.size < 300 := hs
  show Calls Try.prog 30 #[.pointer (some ⟨p.b, 0, none⟩), .pointer (some ⟨q.b, 0, none⟩), .agg #[.int .i64 11, .int .i64 d, .int .i64 i, .int .i64 m, .string s, .bool raw, xv, .int .i64 xt, .int .i64 xb, yv, .int .i64 yt, .int .i64 yb]] w _
  obtain ⟨W, hW⟩ : ∃ W, W = w.alloc (.cells #[.int .i64 11, .int .i64 d, .int .i64 i, .int .i64 m, .string s, .bool raw, xv, .int .i64 xt, .int .i64 xb, yv, .int .i64 yt, .int .i64 yb] 34) := ⟨_, rfl⟩
  have hbx : W.heap[w.heap.size]? = some (.cells #[.int .i64 11, .int .i64 d, .int .i64 i, .int .i64 m, .string s, .bool raw, xv, .int .i64 xt, .int .i64 xb, yv, .int .i64 yt, .int .i64 yb] 34 (0, 0)) := by rw [hW]; exact heap_new w _
  have hkW : Kp No w W := by rw [hW]; exact (Kp.refl _ _).alloc _
  have HP := Lib.hid (h.no hkW)
  have nH : ¬ FF p q w.heap.size := fun x => by have := hlt _ x; omega
  have NH := Lib.hid nH
  have HK := Lib.hid hkW
  have HX := Lib.hid hbx
  have HW := Lib.hid hW
  have HC : Hid (Calls Try.prog 124 #[.pointer (some ⟨p.b, 0, none⟩), .pointer (some ⟨q.b, 0, none⟩), .agg #[.int .i64 11, .int .i64 d, .int .i64 i, .int .i64 m, .string s, .bool raw, xv, .int .i64 xt, .int .i64 xb, yv, .int .i64 yt, .int .i64 yb]] W (DoP W p q σ τ)) := Lib.hid (comes11_any ⟨11, d, i, m, s, raw, ⟨xv, xk, xt, xb⟩, ⟨yv, yk, yt, yb⟩⟩ HP.out rfl)
  clear h hlt nH hbx hkW hW ha hs
  go_enter Try.func30, Try.ntmps30
  go_wp2_with fail
  rw [← HW.out]
  refine HC.out.mono ?_
  rintro e w3 ⟨b, σ', τ', rfl, h3, e1, e2, e3, k3⟩
  have HP3 := Lib.hid h3
  have K3 := Lib.hid k3
  have E1 := Lib.hid e1
  have E2 := Lib.hid e2
  have E3 := Lib.hid e3
  clear h3 k3 e1 e2 e3 HC HP HX HW
  go_wp2
  go_ret
  exact ⟨b, σ', τ', rfl, HP3.out, E1.out, E2.out, E3.out, HK.out.no.trans' K3.out⟩

set_option maxRecDepth 100000 in
set_option maxHeartbeats 4000000 in
theorem do_oth (a : LAct) (h : Pr w p q σ τ) (hkd : (a.kd ≠ 0 ∧ a.kd ≠ 1 ∧ a.kd ≠ 2 ∧ a.kd ≠ 5 ∧ a.kd ≠ 6 ∧ a.kd ≠ 7 ∧ a.kd ≠ 8) ∧ a.kd ≠ 9 ∧ a.kd ≠ 10 ∧ a.kd ≠ 11 ∧ a.kd ≠ 12) (hs : a.s.size < 300) (ha : a.ok (FF p q) w) (hc : σ.calls ≤ 1000000000) (hc2 : τ.calls ≤ 1000000000) :
    Calls Try.prog 30 #[.pointer (some ⟨p.b, 0, none⟩), .pointer (some ⟨q.b, 0, none⟩), a.val] w (DoP w p q σ τ) := by
  have hlt := h.lt
  obtain ⟨kd, d, i, m, s, raw, ⟨xv, xk, xt, xb⟩, ⟨yv, yk, yt, yb⟩⟩ := a
  have hs' : s.size < 300 := hs
  show Calls Try.prog 30 #[.pointer (some ⟨p.b, 0, none⟩), .pointer (some ⟨q.b, 0, none⟩), .agg #[.int .i64 kd, .int .i64 d, .int .i64 i, .int .i64 m, .string s, .bool raw, xv, .int .i64 xt, .int .i64 xb, yv, .int .i64 yt, .int .i64 yb]] w _
  obtain ⟨W, hW⟩ : ∃ W, W = w.alloc (.cells #[.int .i64 kd, .int .i64 d, .int .i64 i, .int .i64 m, .string s, .bool raw, xv, .int .i64 xt, .int .i64 xb, yv, .int .i64 yt, .int .i64 yb] 34) := ⟨_, rfl⟩
  have hbx : W.heap[w.heap.size]? = some (.cells #[.int .i64 kd, .int .i64 d, .int .i64 i, .int .i64 m, .string s, .bool raw, xv, .int .i64 xt, .int .i64 xb, yv, .int .i64 yt, .int .i64 yb] 34 (0, 0)) := by rw [hW]; exact heap_new w _
  have hkW : Kp No w W := by rw [hW]; exact (Kp.refl _ _).alloc _
  have HP := Lib.hid (h.no hkW)
  have nH : ¬ FF p q w.heap.size := fun x => by have := hlt _ x; omega
  have NH := Lib.hid nH
  have HK := Lib.hid hkW
  have HX := Lib.hid hbx
  have HW := Lib.hid hW
  have HC : Hid (Calls Try.prog 126 #[.pointer (some ⟨p.b, 0, none⟩), .pointer (some ⟨q.b, 0, none⟩), .agg #[.int .i64 kd, .int .i64 d, .int .i64 i, .int .i64 m, .string s, .bool raw, xv, .int .i64 xt, .int .i64 xb, yv, .int .i64 yt, .int .i64 yb]] W (DoP W p q σ τ)) := Lib.hid (reads_any ⟨kd, d, i, m, s, raw, ⟨xv, xk, xt, xb⟩, ⟨yv, yk, yt, yb⟩⟩ HP.out hc hc2)
  obtain ⟨⟨n0, n1, n2, n5, n6, n7, n8⟩, n9, n10, n11, n12⟩ := hkd
  have z0 : (kd == 0) = false := by rw [beq_eq_false_iff_ne]; exact n0
  have z1 : (kd == 1) = false := by rw [beq_eq_false_iff_ne]; exact n1
  have z2 : (kd == 2) = false := by rw [beq_eq_false_iff_ne]; exact n2
  have z5 : (kd == 5) = false := by rw [beq_eq_false_iff_ne]; exact n5
  have z6 : (kd == 6) = false := by rw [beq_eq_false_iff_ne]; exact n6
  have z7 : (kd == 7) = false := by rw [beq_eq_false_iff_ne]; exact n7
  have z8 : (kd == 8) = false := by rw [beq_eq_false_iff_ne]; exact n8
  have z9 : (kd == 9) = false := by rw [beq_eq_false_iff_ne]; exact n9
  have z10 : (kd == 10) = false := by rw [beq_eq_false_iff_ne]; exact n10
  have z11 : (kd == 11) = false := by rw [beq_eq_false_iff_ne]; exact n11
  have z12 : (kd == 12) = false := by rw [beq_eq_false_iff_ne]; exact n12
  clear h hlt nH hbx hkW hW ha hs n0 n1 n2 n5 n6 n7 n8 n9 n10 n11 n12
  go_enter Try.func30, Try.ntmps30
  go_wp2_with fail
  rw [← HW.out]
  refine HC.out.mono ?_
  rintro e w3 ⟨b, σ', τ', rfl, h3, e1, e2, e3, k3⟩
  have HP3 := Lib.hid h3
  have K3 := Lib.hid k3
  have E1 := Lib.hid e1
  have E2 := Lib.hid e2
  have E3 := Lib.hid e3
  clear h3 k3 e1 e2 e3 HC HP HX HW
  go_wp2
  go_ret
  exact ⟨b, σ', τ', rfl, HP3.out, E1.out, E2.out, E3.out, HK.out.no.trans' K3.out⟩

set_option maxRecDepth 100000 in
set_option maxHeartbeats 4000000 in
theorem do_k5 (a : LAct) (h : Pr w p q σ τ) (hkd : a.kd = 5) (hs : a.s.size < 300) (ha : a.ok (FF p q) w) (hc : σ.calls ≤ 1000000000) (hc2 : τ.calls ≤ 1000000000) :
    Calls Try.prog 30 #[.pointer (some ⟨p.b, 0, none⟩), .pointer (some ⟨q.b, 0, none⟩), a.val] w (DoP w p q σ τ) := by
  have hlt := h.lt
  obtain ⟨kd, d, i, m, s, raw, ⟨xv, xk, xt, xb⟩, ⟨yv, yk, yt, yb⟩⟩ := a
  obtain rfl : kd = 5 := hkd
  have hs' : s.size < 300 := hs
  show Calls Try.prog 30 #[.pointer (some ⟨p.b, 0, none⟩), .pointer (some ⟨q.b, 0, none⟩), .agg #[.int .i64 5, .int .i64 d, .int .i64 i, .int .i64 m, .string s, .bool raw, xv, .int .i64 xt, .int .i64 xb, yv, .int .i64 yt, .int .i64 yb]] w _
  obtain ⟨W, hW⟩ : ∃ W, W = w.alloc (.cells #[.int .i64 5, .int .i64 d, .int .i64 i, .int .i64 m, .string s, .bool raw, xv, .int .i64 xt, .int .i64 xb, yv, .int .i64 yt, .int .i64 yb] 34) := ⟨_, rfl⟩
  have hbx : W.heap[w.heap.size]? = some (.cells #[.int .i64 5, .int .i64 d, .int .i64 i, .int .i64 m, .string s, .bool raw, xv, .int .i64 xt, .int .i64 xb, yv, .int .i64 yt, .int .i64 yb] 34 (0, 0)) := by rw [hW]; exact heap_new w _
  have hkW : Kp No w W := by rw [hW]; exact (Kp.refl _ _).alloc _
  have HP := Lib.hid (h.no hkW)
  have nH : ¬ FF p q w.heap.size := fun x => by have := hlt _ x; omega
  have NH := Lib.hid nH
  have HK := Lib.hid hkW
  have HX := Lib.hid hbx
  have HW := Lib.hid hW
  have d2 : W.cell? ⟨w.heap.size, 1, none⟩ = some (.int .i64 d) := cellOf hbx 1
  clear h hlt nH hbx hkW hW ha hs
  by_cases hr : rmay d 0 = 0
  · have hdz := rmay_zero hr
    obtain ⟨d', rfl⟩ : ∃ d' : Nat, d = d' := ⟨d.toNat, by omega⟩
    have hd' : d' < 2 := by omega
    clear hr hdz
    go_enter Try.func30, Try.ntmps30
    go_wp2_with fail
    rw [← HW.out]
    refine (rflush_ok d' W HP.out.1 HP.out.2.2.1 hc hd').mono ?_
    rintro e w3 ⟨rfl, h3, k3⟩
    have HP3 := Lib.hid (HP.out.rig h3 (wf_flushed HP.out.2.2.1) k3)
    have x3 := (k3.f1 (q := q)).heap HX.out NH.out
    have K3 := Lib.hid (HK.out.no.trans' (k3.f1 (q := q)))
    have d3 : w3.cell? ⟨w.heap.size, 1, none⟩ = some (.int .i64 d') := cellOf x3 1
    have X3 := Lib.hid x3
    clear h3 k3 x3 HP HK HX HW d2
    go_wp2_with fail
    refine (rstep_any HP3.out.2.1 HP3.out.2.2.2 hc2 HP3.out.up).mono ?_
    rintro e w5 ⟨n, τ5, rfl, h5, hw5, hcc5, k5⟩
    have HP5 := Lib.hid (HP3.out.ref h5 hw5 k5)
    have K5 := Lib.hid (K3.out.trans' (k5.f2 (p := p)))
    have x5 := (k5.f2 (p := p)).heap X3.out NH.out
    have d5 : w5.cell? ⟨w.heap.size, 1, none⟩ = some (.int .i64 d') := cellOf x5 1
    have HCC := Lib.hid hcc5
    clear h5 hw5 k5 HP3 K3 X3 x5 hcc5 d3
    by_cases hn : n = 0
    · subst hn
      have cp := HP5.out.2.1.ptr hd'
      obtain ⟨S', hrd, hup, hnq, hfq, hback⟩ := HP5.out.2.1.devd HP5.out.up d'
      obtain ⟨b0, hb0⟩ : ∃ b0, b0 = q.db d' := ⟨_, rfl⟩
      rw [← hb0] at cp hrd hnq hfq hback
      have HWr := Lib.hid (rdflush_any (w := w5.drew) (hrd.no (Kp.dr _)) hup)
      have HBK := Lib.hid hback
      have i0 : (0 : Int) ≤ (d' : Int) := by omega
      have i1 : (d' : Int) < 2 := by omega
      have hHq : ¬ (w.heap.size = b0) := fun e => NH.out (by rw [e]; exact .inr hfq)
      have HF := Lib.hid hfq
      clear hb0 hrd hup hback hfq
      go_wp2_with fail
      go_region_held3 (fun w' => w'.cell? ⟨q.b, d', none⟩ = some (.pointer (some ⟨b0, 0, none⟩)) ∧ w'.cell? ⟨w.heap.size, 1, none⟩ = some (.int .i64 d')) (go_keep)
        ((go_at_call 120; refine HWr.out.mono ?_; rintro e w6 ⟨rfl, hd6, k6⟩; have e0 := k6.cell (a := ⟨q.b, d', none⟩) cp hnq; have e1 := k6.cell (a := ⟨w.heap.size, 1, none⟩) d5 hHq))
      have kk := (Kp.dr w5).no.trans' k6
      have HP6 := Lib.hid (HP5.out.ref (HBK.out _ hd6 kk) HP5.out.2.2.2 (kk.mono fun k _ e => e ▸ HF.out))
      have K6 := Lib.hid (K5.out.trans' ((kk.mono fun k _ e => e ▸ HF.out : Kp (RFr q) w5 w6).f2 (p := p)))
      clear kk hd6 k6 e0 e1 HWr HBK
      go_wp2
      go_ret
      exact ⟨_, _, _, rfl, HP6.out, (flushed_reg σ d').1, (flushed_reg σ d').2, HCC.out, K6.out⟩
    · have hz : (n == 0) = false := by rw [beq_eq_false_iff_ne]; exact hn
      clear hn
      go_wp2
      go_ret
      exact ⟨_, _, _, rfl, HP5.out, (flushed_reg σ d').1, (flushed_reg σ d').2, HCC.out, K5.out⟩
  · have hbd : d < 0 ∨ 1 < d := by
      rcases Int.lt_or_le d 0 with h | h
      · exact .inl h
      · rcases Int.lt_or_le 1 d with h1 | h1
        · exact .inr h1
        · exact absurd (by unfold rmay; rw [if_neg (by omega), if_neg (by omega)]) hr
    have HR := Lib.hid hr
    clear hr
    rcases hbd with hb1 | hb1
    all_goals
      go_enter Try.func30, Try.ntmps30
      go_wp2_with fail
      rw [← HW.out]
      refine (rflush_bad p.b d W HR.out).mono ?_
      rintro e w3 ⟨rfl, k3⟩
      have x3 := k3.heap HX.out id
      have d3 : w3.cell? ⟨w.heap.size, 1, none⟩ = some (.int .i64 d) := cellOf x3 1
      have HP3 := Lib.hid (HP.out.no k3)
      have K3 := Lib.hid (HK.out.trans' k3)
      clear k3 x3 HP HK HX HW d2
      go_wp2
      go_ret
      exact ⟨_, _, _, rfl, HP3.out, rfl, Nat.le_succ _, Nat.le_succ _, K3.out.no⟩
end
end Go.Proofs.Ytocpppegmepolaa
