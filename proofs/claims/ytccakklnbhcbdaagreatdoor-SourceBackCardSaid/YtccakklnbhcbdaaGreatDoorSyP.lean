/- source: the reference's Small; the law's great. -/
import Derived.Test.YtccakklnbhcbdaaGreatDoorSyO
import Derived.Test.YtccakklnbhcbdaaGreatDoorSyC
set_option linter.unusedVariables false
set_option linter.unusedSimpArgs false
namespace Go.Proofs.YtccakklnbhcbdaaGreatDoor
open Go.ChangeShapes Go.WideShapes Go.ChangeAt Go.RowKit

abbrev PB (b : List UInt8 × List Int) : Prop := b.1.length ≤ 60 ∧ b.2.length ≤ 23
abbrev PU (b : List UInt8 × List Int) : Prop := b.1.length ≤ 60
abbrev PD (x : List UInt8 × List Int × List (List Int)) : Prop := x.1.length ≤ 60 ∧ x.2.2.length ≤ 300
/-- What Small tells. -/
structure SmallD (d : Det) : Prop where
  many : d.boxes.length + d.holes.length + d.bars.length + d.runs.length + d.laps.length + d.dems.length ≤ 2000
  nm : d.name.length ≤ 60
  bars : ∀ b ∈ d.bars, PB b
  runs : ∀ b ∈ d.runs, PU b
  dems : ∀ x ∈ d.dems, PD x
theorem Det.shp.sh {d : Det} (h : d.shp) (s : SmallD d) : d.sh :=
  ⟨h.mem, h.boxes, h.holes, h.rule, h.bars, h.runs, h.laps, h.dems, by have := s.nm; omega, fun b hb => by have := (s.bars b hb).1; omega, fun b hb => by have : b.1.length ≤ 60 := s.runs b hb; omega, fun x hx => by have := (s.dems x hx).1; omega⟩
def SmallE (d : Det) (w : World) (e : Ending) (w' : World) : Prop := ∃ b, e = .returned (.bool b) ∧ Below w.heap.size w w' ∧ (b = true → SmallD d)
theorem SmallE.mk {d : Det} {w w' : World} (b : Bool) (hb : Below w.heap.size w w') (h : b = true → SmallD d) : SmallE d w (.returned (.bool b)) w' := ⟨b, rfl, hb, h⟩
def GreatE (d : Det) (w : World) (e : Ending) (w' : World) : Prop := ∃ b, e = .returned (.bool b) ∧ Below w.heap.size w w' ∧ (b = false → SmallD d ∧ (wrD d = true → manyD d ≤ 80))
theorem GreatE.mk {d : Det} {w w' : World} (b : Bool) (hb : Below w.heap.size w w') (h : b = false → SmallD d ∧ (wrD d = true → manyD d ≤ 80)) : GreatE d w (.returned (.bool b)) w' := ⟨b, rfl, hb, h⟩
theorem wpList_load_row_w {P : Program} {ops : Array Oper} {rest : List Oper} {o : Oper} {a : Act} {w : World} {Q : Exit → Act → World → Prop} (hw : Region.wanted o (yielded ops a.tmps) = true) (ty : TypeId) (x : Operand) (ho : o.op = .load ty x)
    (g : Nat) (hx : a.eval x = .pointer (some ⟨g, 0, none⟩)) (t : TypeId) (cs : Array Value) (fr : Nat × Nat) (d : TypeDesc) (hg : w.heap[g]? = some (.cells cs t fr))
    (hu : P.underlying ty = some d) (hd : (match d with | .struct _ | .array _ _ => true | _ => false) = true) (hi : (P.info? ty).map (·.size) = some cs.size)
    (h : wpList P ops Q rest (a.put o.dst (.agg cs)) w) : wpList P ops Q (o :: rest) a w :=
  wpList_step fun K hK => by rw [if_pos hw]; exact wp_load_row ty x ho g hx t cs fr d hg hu hd hi (hK _ _ h)
theorem take_next {α : Type} {P : α → Prop} (l : List α) (k : Nat) (hk : k < l.length) (h : ∀ b ∈ l.take k, P b) (h2 : P l[k]) : ∀ b ∈ l.take (k + 1), P b := fun b hb => by
  rw [List.take_succ_eq_append_getElem hk] at hb
  rcases List.mem_append.1 hb with q | q
  · exact h b q
  · rw [List.mem_singleton.1 q]; exact h2

set_option maxRecDepth 100000 in
set_option maxHeartbeats 4000000 in
theorem small_any (d : Det) (p : PV) (hs : d.shp) (hf : d.few) (w : World) (hv : DetV w d p) : Calls Tryz.prog 31 #[.agg (detC d p)] w (SmallE d w) := by
  have hqb := hf.nb
  have hqh := hf.nh
  have hqr := hf.nr
  have hqu := hf.nu
  have hql := hf.nl
  have hqd := hf.nd
  clear hf
  obtain ⟨ab, cb, eb, -, -, hRb⟩ := hv.boxes
  obtain ⟨ah, ch, eh, -, -, hRh⟩ := hv.holes
  obtain ⟨ar, cr, er, -, -, hRr⟩ := hv.bars
  obtain ⟨au, cu, eu, -, -, hRu⟩ := hv.runs
  obtain ⟨al, cl, el, -, -, hRl⟩ := hv.laps
  obtain ⟨ad, cd, ed, -, -, hRd⟩ := hv.dems
  have hnbr := hv.nb
  have hnsd := hv.ns
  have hSd := hv.dims
  have hSt := hv.steps
  have hzr : (d.bars.zip p.db).length = d.bars.length := by rw [List.length_zip, hv.nb]; simp
  have hzd : (d.dems.zip p.ds).length = d.dems.length := by rw [List.length_zip, hv.ns]; simp
  rw [hzr] at er
  rw [hzd] at ed
  have hmem := hs.mem
  have hrule := hs.rule
  clear hs hv
  obtain ⟨name, mem, boxes, holes, rule, bars, runs, laps, dems⟩ := d
  obtain ⟨vt, vb, vh, vr, vn, vl, vd, db, ds⟩ := p
  dsimp only at *
  obtain ⟨m0, m1, m2, rfl⟩ := three hmem
  obtain ⟨r0, r1, r2, r3, r4, r5, r6, r7, r8, rfl⟩ := nine hrule
  obtain ⟨NM, hNM⟩ : ∃ NM : ByteArray, NM = ⟨name.toArray⟩ := ⟨_, rfl⟩
  obtain ⟨nb, hnb⟩ : ∃ n, boxes.length = n := ⟨_, rfl⟩
  rw [hnb] at eb
  obtain ⟨nh, hnh⟩ : ∃ n, holes.length = n := ⟨_, rfl⟩
  rw [hnh] at eh
  obtain ⟨nr, hnr⟩ : ∃ n, bars.length = n := ⟨_, rfl⟩
  rw [hnr] at er
  obtain ⟨nu, hnu⟩ : ∃ n, runs.length = n := ⟨_, rfl⟩
  rw [hnu] at eu
  obtain ⟨nl, hnl⟩ : ∃ n, laps.length = n := ⟨_, rfl⟩
  rw [hnl] at el
  obtain ⟨nd, hnd⟩ : ∃ n, dems.length = n := ⟨_, rfl⟩
  rw [hnd] at ed
  subst eb eh er eu el ed
  rw [hnb] at hqb
  rw [hnh] at hqh
  rw [hnr] at hqr
  rw [hnu] at hqu
  rw [hnl] at hql
  rw [hnd] at hqd
  have hNMz : Hid (NM.size = name.length) := Lib.hid (by rw [hNM, mk_size])
  rw [show detC ⟨name, [m0, m1, m2], boxes, holes, [r0, r1, r2, r3, r4, r5, r6, r7, r8], bars, runs, laps, dems⟩ ⟨vt, .slice ab nb cb, .slice ah nh ch, .slice ar nr cr, .slice au nu cu, .slice al nl cl, .slice ad nd cd, db, ds⟩ = #[.string NM, .slice ab nb cb, .slice ah nh ch, .int .i64 m0, .int .i64 m1, .int .i64 m2, .slice ar nr cr, .slice au nu cu, .slice al nl cl, .slice ad nd cd, .int .i64 r0, .int .i64 r1, .int .i64 r2, .int .i64 r3, .int .i64 r4, .int .i64 r5, .int .i64 r6, .int .i64 r7, .int .i64 r8] by rw [hNM]; rfl]
  replace hSd := Lib.hid hSd
  replace hSt := Lib.hid hSt
  replace hRr := Lib.hid hRr
  replace hRu := Lib.hid hRu
  replace hRd := Lib.hid hRd
  replace hnbr := Lib.hid hnbr
  replace hnsd := Lib.hid hnsd
  replace hzr := Lib.hid hzr
  replace hzd := Lib.hid hzd
  replace hNM := Lib.hid hNM
  replace hnb := Lib.hid hnb
  replace hnh := Lib.hid hnh
  replace hnr := Lib.hid hnr
  replace hnu := Lib.hid hnu
  replace hnl := Lib.hid hnl
  replace hnd := Lib.hid hnd
  clear hmem hrule
  go_enter Tryz.func31, Tryz.ntmps31
  go_upto_region 1 with fail
  generalize hWW : World.alloc w _ = WL
  have kt : At WL w.heap.size 34 #[.string NM, .slice ab nb cb, .slice ah nh ch, .int .i64 m0, .int .i64 m1, .int .i64 m2, .slice ar nr cr, .slice au nu cu, .slice al nl cl, .slice ad nd cd, .int .i64 r0, .int .i64 r1, .int .i64 r2, .int .i64 r3, .int .i64 r4, .int .i64 r5, .int .i64 r6, .int .i64 r7, .int .i64 r8] := by rw [← hWW]; exact At.new' rfl
  have hWb : Hid (Below w.heap.size w WL) := Lib.hid (by rw [← hWW]; exact below_al (Below.refl _ _) _)
  clear hWW
  have x0 : WL.cell? ⟨w.heap.size, 0, none⟩ = some (.string NM) := kt.c 0
  have x1 : WL.cell? ⟨w.heap.size, 1, none⟩ = some (.slice ab nb cb) := kt.c 1
  have x2 : WL.cell? ⟨w.heap.size, 2, none⟩ = some (.slice ah nh ch) := kt.c 2
  have x6 : WL.cell? ⟨w.heap.size, 6, none⟩ = some (.slice ar nr cr) := kt.c 6
  have x7 : WL.cell? ⟨w.heap.size, 7, none⟩ = some (.slice au nu cu) := kt.c 7
  have x8 : WL.cell? ⟨w.heap.size, 8, none⟩ = some (.slice al nl cl) := kt.c 8
  have x9 : WL.cell? ⟨w.heap.size, 9, none⟩ = some (.slice ad nd cd) := kt.c 9
  clear kt
  obtain ⟨n1, hn1⟩ : ∃ n : Int, (nb : Int) + (nh : Int) = n := ⟨_, rfl⟩
  have e1 : IntKind.i64.wrap ((nb : Int) + (nh : Int)) = n1 := by rw [wrap_in (by omega)]; exact hn1
  obtain ⟨n2, hn2⟩ : ∃ n : Int, n1 + (nr : Int) = n := ⟨_, rfl⟩
  have e2 : IntKind.i64.wrap (n1 + (nr : Int)) = n2 := by rw [wrap_in (by omega)]; exact hn2
  obtain ⟨n3, hn3⟩ : ∃ n : Int, n2 + (nu : Int) = n := ⟨_, rfl⟩
  have e3 : IntKind.i64.wrap (n2 + (nu : Int)) = n3 := by rw [wrap_in (by omega)]; exact hn3
  obtain ⟨n4, hn4⟩ : ∃ n : Int, n3 + (nl : Int) = n := ⟨_, rfl⟩
  have e4 : IntKind.i64.wrap (n3 + (nl : Int)) = n4 := by rw [wrap_in (by omega)]; exact hn4
  obtain ⟨n5, hn5⟩ : ∃ n : Int, n4 + (nd : Int) = n := ⟨_, rfl⟩
  have e5 : IntKind.i64.wrap (n4 + (nd : Int)) = n5 := by rw [wrap_in (by omega)]; exact hn5
  replace hn5 : Hid (((nb + nh + nr + nu + nl + nd : Nat) : Int) = n5) := Lib.hid (by omega)
  clear hn1 hn2 hn3 hn4
  by_cases l1 : 2000 < n5
  · have l1' : decide ((2000 : Int) < (n5 : Int)) = true := decide_eq_true (by omega)
    go_wp2_with fail
    go_ret
    exact SmallE.mk false hWb.out (fun h => by cases h)
  · have l1' : decide ((2000 : Int) < (n5 : Int)) = false := decide_eq_false (by omega)
    by_cases l2 : 60 < NM.size
    · have l2' : decide ((60 : Int) < (NM.size : Int)) = true := decide_eq_true (by omega)
      go_wp2_with fail
      go_ret
      exact SmallE.mk false hWb.out (fun h => by cases h)
    · have l2' : decide ((60 : Int) < (NM.size : Int)) = false := decide_eq_false (by omega)
      go_wp2_with fail
      clear x0 x1 x2
      go_loopg [4] nr (fun g i wr => ∃ k : Nat, k ≤ nr ∧ i = .int .i64 (k : Int) ∧ Hid (g = nr - k ∧ ∀ b ∈ bars.take k, PB b) ∧ WL = wr)
      case atStart => exact ⟨0, Nat.zero_le _, rfl, Lib.hid ⟨rfl, fun b h => by simp at h⟩, rfl⟩
      case round =>
        obtain ⟨k, hk, rfl, hr, rfl⟩ := hrel
        by_cases hlt : k < nr
        · have hkl : k < bars.length := by rw [hnr.out]; exact hlt
          obtain ⟨bb, off, rfl, hbl, hc⟩ := hRr.out k (by rw [hzr.out]; exact hkl)
          rw [List.getElem_zip] at hc
          obtain ⟨sa, sc, hdv, -⟩ := hSd.out k hkl (by rw [hnbr.out]; exact hkl)
          obtain ⟨n, hn⟩ : ∃ n, (bars[k].2.drop 3).length = n := ⟨_, rfl⟩
          obtain ⟨NM, hNMk⟩ : ∃ NM : ByteArray, NM = ⟨(bars[k].1).toArray⟩ := ⟨_, rfl⟩
          have hNs : NM.size = (bars[k].1).length := by rw [hNMk, mk_size]
          rw [hn] at hdv
          have q0 : WL.cell? ⟨bb, off + k * 5, none⟩ = some (.string NM) := (hWb.out.cell hbl).trans (hc 0 _ (by rw [hNMk]; rfl))
          have q4 : WL.cell? ⟨bb, off + k * 5 + 4, none⟩ = some (.slice sa n sc) := (hWb.out.cell hbl).trans (hc 4 _ (by rw [← hdv]; rfl))
          replace hn := Lib.hid hn
          replace hNMk := Lib.hid hNMk
          replace hNs := Lib.hid hNs
          clear hc hdv hbl
          by_cases l1 : 20 < n
          · have l1' : decide ((20 : Int) < (n : Int)) = true := decide_eq_true (by omega)
            go_wp2_with fail
            go_ret
            exact SmallE.mk false hWb.out (fun h => by cases h)
          · have l1' : decide ((20 : Int) < (n : Int)) = false := decide_eq_false (by omega)
            by_cases l2 : 60 < NM.size
            · have l2' : decide ((60 : Int) < (NM.size : Int)) = true := decide_eq_true (by omega)
              go_wp2_with fail
              go_ret
              exact SmallE.mk false hWb.out (fun h => by cases h)
            · have l2' : decide ((60 : Int) < (NM.size : Int)) = false := decide_eq_false (by omega)
              go_wp2_with fail
              go_roundg (nr - (k + 1))
              case measure => have := hr.out.1; omega
              case rel => exact ⟨k + 1, by omega, by go_num, Lib.hid ⟨rfl, take_next _ k hkl hr.out.2 (⟨by rw [← hNs.out]; omega, by have := hn.out; rw [List.length_drop] at this; omega⟩)⟩, rfl⟩
        · have hAll_nr : Hid (∀ b ∈ bars, PB b) := Lib.hid (by
            have := hr.out.2
            rw [List.take_of_length_le (by have := hnr.out; omega)] at this
            exact this)
          go_wp2_with fail
          clear hr
          go_loopg [5] nu (fun g i wr => ∃ k : Nat, k ≤ nu ∧ i = .int .i64 (k : Int) ∧ Hid (g = nu - k ∧ ∀ b ∈ runs.take k, PU b) ∧ WL = wr)
          case atStart => exact ⟨0, Nat.zero_le _, rfl, Lib.hid ⟨rfl, fun b h => by simp at h⟩, rfl⟩
          case round =>
            obtain ⟨k, hk, rfl, hr, rfl⟩ := hrel
            by_cases hlt : k < nu
            · have hkl : k < runs.length := by rw [hnu.out]; exact hlt
              obtain ⟨bb, off, rfl, hbl, hc⟩ := hRu.out k hkl
              obtain ⟨NM, hNMk⟩ : ∃ NM : ByteArray, NM = ⟨(runs[k].1).toArray⟩ := ⟨_, rfl⟩
              have hNs : NM.size = (runs[k].1).length := by rw [hNMk, mk_size]
              have q0 : WL.cell? ⟨bb, off + k * 10, none⟩ = some (.string NM) := (hWb.out.cell hbl).trans (hc 0 _ (by rw [hNMk]; rfl))
              replace hNMk := Lib.hid hNMk
              replace hNs := Lib.hid hNs
              clear hc hbl
              by_cases l2 : 60 < NM.size
              · have l2' : decide ((60 : Int) < (NM.size : Int)) = true := decide_eq_true (by omega)
                go_wp2_with fail
                go_ret
                exact SmallE.mk false hWb.out (fun h => by cases h)
              · have l2' : decide ((60 : Int) < (NM.size : Int)) = false := decide_eq_false (by omega)
                go_wp2_with fail
                go_roundg (nu - (k + 1))
                case measure => have := hr.out.1; omega
                case rel => exact ⟨k + 1, by omega, by go_num, Lib.hid ⟨rfl, take_next _ k hkl hr.out.2 (by show (runs[k].1).length ≤ 60; rw [← hNs.out]; omega)⟩, rfl⟩
            · have hAll_nu : Hid (∀ b ∈ runs, PU b) := Lib.hid (by
                have := hr.out.2
                rw [List.take_of_length_le (by have := hnu.out; omega)] at this
                exact this)
              go_wp2_with fail
              clear hr
              go_loopg [6] nd (fun g i wr => ∃ k : Nat, k ≤ nd ∧ i = .int .i64 (k : Int) ∧ Hid (g = nd - k ∧ ∀ b ∈ dems.take k, PD b) ∧ WL = wr)
              case atStart => exact ⟨0, Nat.zero_le _, rfl, Lib.hid ⟨rfl, fun b h => by simp at h⟩, rfl⟩
              case round =>
                obtain ⟨k, hk, rfl, hr, rfl⟩ := hrel
                by_cases hlt : k < nd
                · have hkl : k < dems.length := by rw [hnd.out]; exact hlt
                  obtain ⟨bb, off, rfl, hbl, hc⟩ := hRd.out k (by rw [hzd.out]; exact hkl)
                  rw [List.getElem_zip] at hc
                  obtain ⟨sa, sc, hdv, -⟩ := hSt.out k hkl (by rw [hnsd.out]; exact hkl)
                  obtain ⟨n, hn⟩ : ∃ n, (dems[k].2.2).length = n := ⟨_, rfl⟩
                  obtain ⟨NM, hNMk⟩ : ∃ NM : ByteArray, NM = ⟨(dems[k].1).toArray⟩ := ⟨_, rfl⟩
                  have hNs : NM.size = (dems[k].1).length := by rw [hNMk, mk_size]
                  rw [hn] at hdv
                  have q0 : WL.cell? ⟨bb, off + k * 8, none⟩ = some (.string NM) := (hWb.out.cell hbl).trans (hc 0 _ (by rw [hNMk]; rfl))
                  have q7 : WL.cell? ⟨bb, off + k * 8 + 7, none⟩ = some (.slice sa n sc) := (hWb.out.cell hbl).trans (hc 7 _ (by rw [← hdv]; rfl))
                  replace hn := Lib.hid hn
                  replace hNMk := Lib.hid hNMk
                  replace hNs := Lib.hid hNs
                  clear hc hdv hbl
                  by_cases l1 : 300 < n
                  · have l1' : decide ((300 : Int) < (n : Int)) = true := decide_eq_true (by omega)
                    go_wp2_with fail
                    go_ret
                    exact SmallE.mk false hWb.out (fun h => by cases h)
                  · have l1' : decide ((300 : Int) < (n : Int)) = false := decide_eq_false (by omega)
                    by_cases l2 : 60 < NM.size
                    · have l2' : decide ((60 : Int) < (NM.size : Int)) = true := decide_eq_true (by omega)
                      go_wp2_with fail
                      go_ret
                      exact SmallE.mk false hWb.out (fun h => by cases h)
                    · have l2' : decide ((60 : Int) < (NM.size : Int)) = false := decide_eq_false (by omega)
                      go_wp2_with fail
                      go_roundg (nd - (k + 1))
                      case measure => have := hr.out.1; omega
                      case rel => exact ⟨k + 1, by omega, by go_num, Lib.hid ⟨rfl, take_next _ k hkl hr.out.2 (⟨by rw [← hNs.out]; omega, by rw [hn.out]; omega⟩)⟩, rfl⟩
                · have hAll_nd : Hid (∀ b ∈ dems, PD b) := Lib.hid (by
                    have := hr.out.2
                    rw [List.take_of_length_le (by have := hnd.out; omega)] at this
                    exact this)
                  go_wp2_with fail
                  clear hr
                  go_ret
                  exact SmallE.mk true hWb.out (fun _ => ⟨by have := hn5.out; have := hnb.out; have := hnh.out; have := hnr.out; have := hnu.out; have := hnl.out; have := hnd.out; show boxes.length + holes.length + bars.length + runs.length + laps.length + dems.length ≤ 2000; omega, by have := hNMz.out; show name.length ≤ 60; omega, hAll_nr.out, hAll_nu.out, hAll_nd.out⟩)

set_option maxRecDepth 100000 in
set_option maxHeartbeats 4000000 in
theorem great_any (d : Det) (p : PV) (hs : d.shp) (hf : d.few) (w : World) (hv : DetV w d p) : Calls Tryz.prog 10 #[.agg (detC d p)] w (GreatE d w) := by
  obtain ⟨Wr, hWr⟩ : ∃ r, wrD d = r := ⟨_, rfl⟩
  have HS : Hid (∀ w', Below w.heap.size w w' → Calls Tryz.prog 31 #[.agg (detC d p)] w' (SmallE d w')) := Lib.hid fun w' hb => small_any d p hs hf w' (hv.up hb)
  have HW0 : Hid (SmallD d → ∀ w', Below w.heap.size w w' → Calls Tryz.prog 13 #[.agg (detC d p)] w' fun e w2 => e = .returned (.bool Wr) ∧ Below w'.heap.size w' w2) := Lib.hid fun hS w' hb => by
    rw [← hWr]
    exact rwritable_any d p (hs.sh hS) w' (hv.up hb)
  have hSm := hs.dems
  have hqb := hf.nb
  have hqh := hf.nh
  have hqr := hf.nr
  have hqu := hf.nu
  have hql := hf.nl
  have hqd := hf.nd
  clear hf
  obtain ⟨ab, cb, eb, -, -, hRb⟩ := hv.boxes
  obtain ⟨ah, ch, eh, -, -, hRh⟩ := hv.holes
  obtain ⟨ar, cr, er, -, -, hRr⟩ := hv.bars
  obtain ⟨au, cu, eu, -, -, hRu⟩ := hv.runs
  obtain ⟨al, cl, el, -, -, hRl⟩ := hv.laps
  obtain ⟨ad, cd, ed, -, -, hRd⟩ := hv.dems
  have hnbr := hv.nb
  have hnsd := hv.ns
  have hSd := hv.dims
  have hSt := hv.steps
  have hzr : (d.bars.zip p.db).length = d.bars.length := by rw [List.length_zip, hv.nb]; simp
  have hzd : (d.dems.zip p.ds).length = d.dems.length := by rw [List.length_zip, hv.ns]; simp
  rw [hzr] at er
  rw [hzd] at ed
  have hmem := hs.mem
  have hrule := hs.rule
  clear hs hv
  obtain ⟨name, mem, boxes, holes, rule, bars, runs, laps, dems⟩ := d
  obtain ⟨vt, vb, vh, vr, vn, vl, vd, db, ds⟩ := p
  dsimp only at *
  obtain ⟨m0, m1, m2, rfl⟩ := three hmem
  obtain ⟨r0, r1, r2, r3, r4, r5, r6, r7, r8, rfl⟩ := nine hrule
  obtain ⟨NM, hNM⟩ : ∃ NM : ByteArray, NM = ⟨name.toArray⟩ := ⟨_, rfl⟩
  obtain ⟨nb, hnb⟩ : ∃ n, boxes.length = n := ⟨_, rfl⟩
  rw [hnb] at eb
  obtain ⟨nh, hnh⟩ : ∃ n, holes.length = n := ⟨_, rfl⟩
  rw [hnh] at eh
  obtain ⟨nr, hnr⟩ : ∃ n, bars.length = n := ⟨_, rfl⟩
  rw [hnr] at er
  obtain ⟨nu, hnu⟩ : ∃ n, runs.length = n := ⟨_, rfl⟩
  rw [hnu] at eu
  obtain ⟨nl, hnl⟩ : ∃ n, laps.length = n := ⟨_, rfl⟩
  rw [hnl] at el
  obtain ⟨nd, hnd⟩ : ∃ n, dems.length = n := ⟨_, rfl⟩
  rw [hnd] at ed
  subst eb eh er eu el ed
  rw [hnb] at hqb
  rw [hnh] at hqh
  rw [hnr] at hqr
  rw [hnu] at hqu
  rw [hnl] at hql
  rw [hnd] at hqd
  rw [show detC ⟨name, [m0, m1, m2], boxes, holes, [r0, r1, r2, r3, r4, r5, r6, r7, r8], bars, runs, laps, dems⟩ ⟨vt, .slice ab nb cb, .slice ah nh ch, .slice ar nr cr, .slice au nu cu, .slice al nl cl, .slice ad nd cd, db, ds⟩ = #[.string NM, .slice ab nb cb, .slice ah nh ch, .int .i64 m0, .int .i64 m1, .int .i64 m2, .slice ar nr cr, .slice au nu cu, .slice al nl cl, .slice ad nd cd, .int .i64 r0, .int .i64 r1, .int .i64 r2, .int .i64 r3, .int .i64 r4, .int .i64 r5, .int .i64 r6, .int .i64 r7, .int .i64 r8] by rw [hNM]; rfl] at HS HW0 ⊢
  replace hSd := Lib.hid hSd
  replace hSt := Lib.hid hSt
  replace hRr := Lib.hid hRr
  replace hRu := Lib.hid hRu
  replace hRd := Lib.hid hRd
  replace hnbr := Lib.hid hnbr
  replace hnsd := Lib.hid hnsd
  replace hzr := Lib.hid hzr
  replace hzd := Lib.hid hzd
  replace hNM := Lib.hid hNM
  replace hnb := Lib.hid hnb
  replace hnh := Lib.hid hnh
  replace hnr := Lib.hid hnr
  replace hnu := Lib.hid hnu
  replace hnl := Lib.hid hnl
  replace hnd := Lib.hid hnd
  replace hSm := Lib.hid hSm
  replace hWr := Lib.hid hWr
  clear hmem hrule
  go_enter Tryz.func10, Tryz.ntmps10
  go_wp2_with (first | (refine wpList_load_row rfl 34 (.tmp 1) rfl w.heap.size (by simp [Act.eval]) 34 #[.string NM, .slice ab nb cb, .slice ah nh ch, .int .i64 m0, .int .i64 m1, .int .i64 m2, .slice ar nr cr, .slice au nu cu, .slice al nl cl, .slice ad nd cd, .int .i64 r0, .int .i64 r1, .int .i64 r2, .int .i64 r3, .int .i64 r4, .int .i64 r5, .int .i64 r6, .int .i64 r7, .int .i64 r8] (0, 0) _ (At.new w _ _) Tryz.underlying34 rfl (by kernel_rfl) ?_) | fail)
  refine (HS.out _ (below_al (Below.refl _ _) _)).mono ?_
  rintro e WL ⟨b, rfl, hb1, hSD⟩
  have kt := Lib.hid ((At.new' rfl : At (w.alloc (.cells #[.string NM, .slice ab nb cb, .slice ah nh ch, .int .i64 m0, .int .i64 m1, .int .i64 m2, .slice ar nr cr, .slice au nu cu, .slice al nl cl, .slice ad nd cd, .int .i64 r0, .int .i64 r1, .int .i64 r2, .int .i64 r3, .int .i64 r4, .int .i64 r5, .int .i64 r6, .int .i64 r7, .int .i64 r8] 34)) w.heap.size 34 #[.string NM, .slice ab nb cb, .slice ah nh ch, .int .i64 m0, .int .i64 m1, .int .i64 m2, .slice ar nr cr, .slice au nu cu, .slice al nl cl, .slice ad nd cd, .int .i64 r0, .int .i64 r1, .int .i64 r2, .int .i64 r3, .int .i64 r4, .int .i64 r5, .int .i64 r6, .int .i64 r7, .int .i64 r8]).bel hb1)
  have hWb := Lib.hid (below_then (below_al (Below.refl _ _) _) hb1)
  clear HS hb1
  cases b
  · go_wp2_with fail
    go_ret
    exact GreatE.mk true hWb.out (fun h => by cases h)
  · replace hSD := Lib.hid (hSD rfl)
    have HW := Lib.hid (HW0.out hSD.out)
    have hQd : Hid (∀ x ∈ dems, x.2.2.length ≤ 300) := Lib.hid fun x hx => (hSD.out.dems x hx).2
    have n5b0 := hSD.out.many
    have x1 : WL.cell? ⟨w.heap.size, 1, none⟩ = some (.slice ab nb cb) := kt.out.c 1
    have x2 : WL.cell? ⟨w.heap.size, 2, none⟩ = some (.slice ah nh ch) := kt.out.c 2
    have x6 : WL.cell? ⟨w.heap.size, 6, none⟩ = some (.slice ar nr cr) := kt.out.c 6
    have x7 : WL.cell? ⟨w.heap.size, 7, none⟩ = some (.slice au nu cu) := kt.out.c 7
    have x8 : WL.cell? ⟨w.heap.size, 8, none⟩ = some (.slice al nl cl) := kt.out.c 8
    have x9 : WL.cell? ⟨w.heap.size, 9, none⟩ = some (.slice ad nd cd) := kt.out.c 9
    clear HW0
    obtain ⟨n1, hn1⟩ : ∃ n : Int, (nb : Int) + (nh : Int) = n := ⟨_, rfl⟩
    have e1 : IntKind.i64.wrap ((nb : Int) + (nh : Int)) = n1 := by rw [wrap_in (by omega)]; exact hn1
    obtain ⟨n2, hn2⟩ : ∃ n : Int, n1 + (nr : Int) = n := ⟨_, rfl⟩
    have e2 : IntKind.i64.wrap (n1 + (nr : Int)) = n2 := by rw [wrap_in (by omega)]; exact hn2
    obtain ⟨n3, hn3⟩ : ∃ n : Int, n2 + (nu : Int) = n := ⟨_, rfl⟩
    have e3 : IntKind.i64.wrap (n2 + (nu : Int)) = n3 := by rw [wrap_in (by omega)]; exact hn3
    obtain ⟨n4, hn4⟩ : ∃ n : Int, n3 + (nl : Int) = n := ⟨_, rfl⟩
    have e4 : IntKind.i64.wrap (n3 + (nl : Int)) = n4 := by rw [wrap_in (by omega)]; exact hn4
    obtain ⟨n5, hn5⟩ : ∃ n : Int, n4 + (nd : Int) = n := ⟨_, rfl⟩
    have e5 : IntKind.i64.wrap (n4 + (nd : Int)) = n5 := by rw [wrap_in (by omega)]; exact hn5
    replace hn5 : Hid (((nb + nh + nr + nu + nl + nd : Nat) : Int) = n5) := Lib.hid (by omega)
    clear hn1 hn2 hn3 hn4
    have n5b : Hid (0 ≤ n5 ∧ n5 ≤ 2000) := Lib.hid (by
      have := hn5.out
      have h1 := hnb.out
      have h2 := hnh.out
      have h3 := hnr.out
      have h4 := hnu.out
      have h5 := hnl.out
      have h6 := hnd.out
      have n5b0 : boxes.length + holes.length + bars.length + runs.length + laps.length + dems.length ≤ 2000 := n5b0
      omega)
    have hnd2 : Hid (nd ≤ 2000) := Lib.hid (by
      have h6 := hnd.out
      have n5b0 : boxes.length + holes.length + bars.length + runs.length + laps.length + dems.length ≤ 2000 := n5b0
      omega)
    clear n5b0
    go_wp2_with fail
    clear x1 x2 x6 x7 x8 x9
    go_loopg [3, 39] nd (fun g s i wr => ∃ (k : Nat) (N : Int), k ≤ nd ∧ s = .int .i64 N ∧ i = .int .i64 (k : Int) ∧ Hid (g = nd - k ∧ N = n5 + (((dems.take k).map fun x => x.2.2.length).sum : Nat) ∧ ((dems.take k).map fun x => x.2.2.length).sum ≤ 300 * k) ∧ Hid (Below WL.heap.size WL wr))
    case atStart => exact ⟨0, n5, Nat.zero_le _, rfl, rfl, Lib.hid ⟨rfl, by simp, by simp⟩, Lib.hid (Below.refl _ _)⟩
    case round =>
      obtain ⟨k, N, hk, rfl, rfl, hr, hb⟩ := hrel
      by_cases hlt : k < nd
      · have hkl : k < dems.length := by rw [hnd.out]; exact hlt
        obtain ⟨bb, off, rfl, hbl, hc⟩ := hRd.out k (by rw [hzd.out]; exact hkl)
        have hW := below_then hWb.out hb.out
        rw [List.getElem_zip] at hc
        obtain ⟨sa, sc, hdv, -⟩ := hSt.out k hkl (by rw [hnsd.out]; exact hkl)
        have hst := hQd.out _ (List.getElem_mem hkl)
        have hz6 := (hSm.out _ (List.getElem_mem hkl)).1
        obtain ⟨m, hm⟩ : ∃ m, (dems[k].2.2).length = m := ⟨_, rfl⟩
        have hsum : ((dems.take (k + 1)).map fun x => x.2.2.length).sum = ((dems.take k).map fun x => x.2.2.length).sum + m := by
          rw [List.take_succ_eq_append_getElem hkl, List.map_append, List.sum_append, ← hm]
          simp
        obtain ⟨x, hxx⟩ : ∃ x, dems[k] = x := ⟨_, rfl⟩
        rw [hxx] at hz6 hst hdv hc hm
        obtain ⟨nm, z, st⟩ := x
        dsimp only at hst hm hdv hz6
        rw [hm] at hst hdv
        obtain ⟨z0, z1, z2, z3, z4, z5, rfl⟩ := six hz6
        obtain ⟨N', hN'⟩ : ∃ N' : Int, N + (m : Int) = N' := ⟨_, rfl⟩
        have eN : IntKind.i64.wrap (N + (m : Int)) = N' := by rw [wrap_in (by have := hr.out.2.2; have := hr.out.2.1; have := n5b.out; have := hnd2.out; omega)]; exact hN'
        have hnx : Hid (N' = n5 + (((dems.take (k + 1)).map fun x => x.2.2.length).sum : Nat) ∧ ((dems.take (k + 1)).map fun x => x.2.2.length).sum ≤ 300 * (k + 1)) := Lib.hid (by
          have h1 := hr.out.2.1
          have h2 := hr.out.2.2
          rw [hsum]
          constructor <;> omega)
        obtain ⟨NMk, hNMk⟩ : ∃ NM : ByteArray, NM = ⟨nm.toArray⟩ := ⟨_, rfl⟩
        have q0 : wr.cell? ⟨bb, off + k * 8, none⟩ = some (.string NMk) := (hW.cell hbl).trans (hc 0 _ (by rw [hNMk]; rfl))
        have q1 : wr.cell? ⟨bb, off + k * 8 + 1, none⟩ = some (.int .i64 z0) := (hW.cell hbl).trans (hc 1 _ (by rfl))
        have q2 : wr.cell? ⟨bb, off + k * 8 + 2, none⟩ = some (.int .i64 z1) := (hW.cell hbl).trans (hc 2 _ (by rfl))
        have q3 : wr.cell? ⟨bb, off + k * 8 + 3, none⟩ = some (.int .i64 z2) := (hW.cell hbl).trans (hc 3 _ (by rfl))
        have q4 : wr.cell? ⟨bb, off + k * 8 + 4, none⟩ = some (.int .i64 z3) := (hW.cell hbl).trans (hc 4 _ (by rfl))
        have q5 : wr.cell? ⟨bb, off + k * 8 + 5, none⟩ = some (.int .i64 z4) := (hW.cell hbl).trans (hc 5 _ (by rfl))
        have q6 : wr.cell? ⟨bb, off + k * 8 + 6, none⟩ = some (.int .i64 z5) := (hW.cell hbl).trans (hc 6 _ (by rfl))
        have q7 : wr.cell? ⟨bb, off + k * 8 + 7, none⟩ = some (.slice sa m sc) := (hW.cell hbl).trans (hc 7 _ (by rw [← hdv]; rfl))
        replace hNMk := Lib.hid hNMk
        replace hm := Lib.hid hm
        replace hN' := Lib.hid hN'
        clear hc hdv hbl hz6 hst hxx hsum hW
        go_wp2_with fail
        generalize hWW : World.alloc wr _ = W1
        have hb1 : Hid (Below WL.heap.size WL W1) := Lib.hid (by rw [← hWW]; exact below_al hb.out _)
        clear hWW
        go_roundg (nd - (k + 1))
        case measure => have := hr.out.1; omega
        case rel => exact ⟨k + 1, N', by omega, rfl, by go_num, Lib.hid ⟨rfl, hnx.out⟩, hb1⟩
      · have hN : Hid (N = n5 + ((dems.map fun x => x.2.2.length).sum : Nat)) := Lib.hid (by
          have := hr.out.2.1
          rw [List.take_of_length_le (by have := hnd.out; omega)] at this
          exact this)
        have hBw := Lib.hid (below_then hWb.out hb.out)
        have kx := kt.out.bel hb.out
        by_cases l8 : 80 < N
        · have l8' : decide ((80 : Int) < N) = true := decide_eq_true l8
          go_upto_region 9 with fail
          refine wp_region_lit ?_
          refine wpList_plain rfl fun K hK => ?_
          go_simp
          refine hK _ _ ?_
          clear hK K
          refine wpList_plain rfl fun K hK => ?_
          go_simp
          refine hK _ _ ?_
          clear hK K
          refine wpList_plain rfl fun K hK => ?_
          go_simp
          refine hK _ _ ?_
          clear hK K
          refine wpList_load_row_w (by rfl) 34 (.tmp 1) rfl w.heap.size (by simp [Act.eval, Act.put]) 34 #[.string NM, .slice ab nb cb, .slice ah nh ch, .int .i64 m0, .int .i64 m1, .int .i64 m2, .slice ar nr cr, .slice au nu cu, .slice al nl cl, .slice ad nd cd, .int .i64 r0, .int .i64 r1, .int .i64 r2, .int .i64 r3, .int .i64 r4, .int .i64 r5, .int .i64 r6, .int .i64 r7, .int .i64 r8] (0, 0) _ kx Tryz.underlying34 rfl (by kernel_rfl) ?_
          go_wp2_with fail
          refine (HW.out wr hBw.out).mono ?_
          rintro e w3 ⟨rfl, hb3⟩
          have hB3 := Lib.hid (below_then hBw.out hb3)
          clear hb3
          cases Wr
          · go_wp2_with fail
            go_ret
            exact GreatE.mk false hB3.out (fun _ => ⟨hSD.out, fun h => by rw [hWr.out] at h; cases h⟩)
          · go_wp2_with fail
            go_ret
            exact GreatE.mk true hB3.out (fun h => by cases h)
        · have l8' : decide ((80 : Int) < N) = false := decide_eq_false l8
          go_wp2_with fail
          go_ret
          exact GreatE.mk false hBw.out (fun _ => ⟨hSD.out, fun _ => by
            have := hn5.out
            have := hN.out
            have h1 := hnb.out
            have h2 := hnh.out
            have h3 := hnr.out
            have h4 := hnu.out
            have h5 := hnl.out
            have h6 := hnd.out
            show boxes.length + holes.length + bars.length + runs.length + laps.length + dems.length + (dems.map fun x => x.2.2.length).sum ≤ 80
            omega⟩)

end Go.Proofs.YtccakklnbhcbdaaGreatDoor
