/- Texts put together: WQv1, WQv2, WQv3. -/
import Derived.Test.YtgfkglhelfkpoaaGreatRPD
import Derived.Test.YtgfkglhelfkpoaaGreatRSK
import Derived.Test.YtgfkglhelfkpoaaGreatRM
set_option maxRecDepth 100000
set_option maxHeartbeats 2000000
open Go.Lib (hid)
namespace Go.Proofs.YtgfkglhelfkpoaaGreat
section
open Go.RowKit Plain
abbrev hdQ (u:Int) (bp op:Nat):List Value:=[ptr bp op,.int .i64 u]
def BoxEnd (S:Nat→Prop) (bv:Nat) (u:Int) (t:TypeId) (hd:List Value) (r:Res (List Term')) (g:Nat) (w w3:World) (A3:Option Addr) (n3 cp3:Nat):Prop:=
  (w3.cell? ⟨g,0,none⟩=some (.int .i64 0)∧w3.cell? ⟨g,1,none⟩=some (.slice none 0 0)∧w3.frozen? ⟨g,0,none⟩=false∧w3.frozen? ⟨g,1,none⟩=false) ∧
  ((w3.setCell ⟨g,0,none⟩ (.int .i64 u)).cell? ⟨g,0,none⟩=some (.int .i64 u)∧((w3.setCell ⟨g,0,none⟩ (.int .i64 u)).setCell ⟨g,1,none⟩ (.slice A3 n3 cp3)).cell? ⟨g,1,none⟩=some (.slice A3 n3 cp3)) ∧
  PPost S bv u t hd r w (.returned (poV u A3 n3 cp3)) ((w3.setCell ⟨g,0,none⟩ (.int .i64 u)).setCell ⟨g,1,none⟩ (.slice A3 n3 cp3))
theorem boxEnd {w w1:World} {S:Nat→Prop} {bv g:Nat} {u:Int} {t:TypeId} {hd:List Value} {r:Res (List Term')} {A:Option Addr} {cap:Nat} {ts:List Term'} {s' c':Int} (hP:PAt w1 (privS S g) A ts) (hok:polyOk u ts=true) (hst:Cells w1 bv t (hd++[.int .i64 s',.int .i64 c'])) (ho:Only (fun q=>q=bv) w w1) (hr:ResIs r ts s' c') (hg:w.heap.size≤g) (hb:bv<w.heap.size)
  (hq:Cells w1 g 86 [.int .i64 0,.slice none 0 0]):BoxEnd S bv u t hd r g w w1 A ts.length cap:=by
 have d1:=hq.set_ 0 (.int .i64 u)
 have d2:=d1.set_ 1 (.slice A ts.length cap)
 have x0:=d1.cell 0
 have x1:=d2.cell 1
 simp only [List.set_cons_zero,List.set_cons_succ,List.getElem?_cons_zero,List.getElem?_cons_succ] at x0 x1
 exact ⟨⟨by rw [hq.cell];rfl,by rw [hq.cell];rfl,hq.frozen _,hq.frozen _⟩,⟨x0,x1⟩,PPost.box hP hok hst ho hr hg hb _ _⟩
theorem failQ_any (u c0 s c:Int) (S:Nat→Prop) (bv bp op:Nat) (w:World) (hst:Cells w bv 161 (hdQ u bp op++[.int .i64 s,.int .i64 c0])) (h0:0≤u) (h1:u≤12) :
  Calls Tryz.prog 197 #[.pointer (some ⟨bv,0,none⟩),.int .i64 c] w (PPost S bv u 161 (hdQ u bp op) (.err (failC c0 c)) w):=by
 have al:=hst.lt
 obtain ⟨W0,hW0⟩:∃ W0,W0=w.alloc (.cells #[.int .i64 0,.slice none 0 0] 86):=⟨_,rfl⟩
 have hg:Below w.heap.size w W0:=by rw [hW0];go_grown
 have hq:Cells W0 w.heap.size 86 [.int .i64 0,.slice none 0 0]:=by rw [hW0];exact Cells.new w _ _
 have hS0:=hst.next hg
 have a1:W0.cell? ⟨bv,1,none⟩=some (.int .i64 u):=by rw [hS0.cell];rfl
 have a3:W0.cell? ⟨bv,3,none⟩=some (.int .i64 c0):=by rw [hS0.cell];rfl
 have z3:W0.frozen? ⟨bv,3,none⟩=false:=hS0.frozen _
 have HW0:=hid hW0
 by_cases hc:c0=0
 ·have hc1:(c0==0)=true:=by simpa using hc
  obtain ⟨W1,hW1⟩:∃ W1,W1=W0.setCell ⟨bv,3,none⟩ (.int .i64 c):=⟨_,rfl⟩
  have hs1:W1.heap.size=W0.heap.size:=by rw [hW1];simp [World.setCell]
  have hc2:Cells W1 bv 161 (hdQ u bp op++[.int .i64 s,.int .i64 c]):=by rw [hW1];exact hS0.set_ 3 _
  have hq1:Cells W1 w.heap.size 86 [.int .i64 0,.slice none 0 0]:=by rw [hW1];exact hq.far (show w.heap.size≠bv by omega) _
  have ho1:Only (fun q=>q=bv) W0 W1:=by rw [hW1];exact ⟨rfl,rfl,rfl,by simp [World.setCell],fun q _ hq=>Below.heap_setCell _ _ _ _ hq⟩
  have hE:BoxEnd S bv u 161 (hdQ u bp op) (.err (failC c0 c)) w.heap.size w W1 none 0 0:=boxEnd (ts:=[]) (PAt.nil _ _ _) (nilOk h0 h1) hc2 ((Only.of_below hg).trans ho1) (by unfold failC;rw [if_pos hc];rfl) (Nat.le_refl _) al hq1
  obtain ⟨⟨k0,k1,q0,q1⟩,⟨y0,y1⟩,HE2⟩:=hE
  have HE3:=hid HE2
  have b1:W1.cell? ⟨bv,1,none⟩=some (.int .i64 u):=by rw [hc2.cell];rfl
  have HW1:=hid hW1
  clear hst hq hS0 hg hc2 hq1 ho1 hW0 hW1 HE2 hc hs1
  go_enter Tryz.func197,Tryz.ntmps197
  go_upto_region 1 with fail
  rw [←HW0.out]
  go_upto_region 3 with fail
  rw [←HW1.out]
  go_wp2
  refine bodyPost_ret (v:=poV u none 0 0) (by simp [results,Tryz.results197,go_sem,y0,y1]) rfl ?_
  exact HE3.out
 ·have hc1:(c0==0)=false:=by simpa using hc
  have hE:BoxEnd S bv u 161 (hdQ u bp op) (.err (failC c0 c)) w.heap.size w W0 none 0 0:=boxEnd (ts:=[]) (PAt.nil _ _ _) (nilOk h0 h1) hS0 (Only.of_below hg) (by unfold failC;rw [if_neg hc];rfl) (Nat.le_refl _) al hq
  obtain ⟨⟨k0,k1,q0,q1⟩,⟨y0,y1⟩,HE2⟩:=hE
  have HE3:=hid HE2
  clear hst hq hS0 hg hW0 HE2 hc
  go_enter Tryz.func197,Tryz.ntmps197
  go_upto_region 1 with fail
  rw [←HW0.out]
  go_wp2
  refine bodyPost_ret (v:=poV u none 0 0) (by simp [results,Tryz.results197,go_sem,y0,y1]) rfl ?_
  exact HE3.out
theorem toldQ_any (u:Int) (s c0:Int) (S:Nat→Prop) (bv bp op cap:Nat) (A:Option Addr) (R:List Term') (ok:Bool) (r:Res (List Term')) (w:World) (hst:Cells w bv 161 (hdQ u bp op++[.int .i64 s,.int .i64 c0])) (hT:PAt w S A R) (h0:0≤u) (h1:u≤12) (hl:R.length≤1048576)
  (hgood:ok=true→R.length≤120→polyOk u R=true∧ResIs r R s c0) (hbad:¬ (ok=true∧R.length≤120)→r=.err (failC c0 3)) :
  Calls Tryz.prog 247 #[.pointer (some ⟨bv,0,none⟩),poV u A R.length cap,.bool ok] w (PPost S bv u 161 (hdQ u bp op) r w):=by
 have al:=hst.lt
 obtain ⟨W0,hW0⟩:∃ W0,W0=(w.alloc (.cells #[.int .i64 u,.slice A R.length cap] 86)).alloc (.cells #[.int .i64 0,.slice none 0 0] 86):=⟨_,rfl⟩
 have hg:Below w.heap.size w W0:=by rw [hW0];go_grown
 have hs0:W0.heap.size=w.heap.size+2:=by rw [hW0];simp
 have hb:Cells W0 w.heap.size 86 [.int .i64 u,.slice A R.length cap]:=by rw [hW0];exact (Cells.new w 86 _).next (by go_grown)
 have hq:Cells W0 (w.heap.size+1) 86 [.int .i64 0,.slice none 0 0]:=by
  rw [hW0]
  have:=Cells.new (w.alloc (.cells #[.int .i64 u,.slice A R.length cap] 86)) 86 [.int .i64 0,.slice none 0 0]
  simpa using this
 have hS0:=hst.next hg
 have p0:W0.cell? ⟨w.heap.size,0,none⟩=some (.int .i64 u):=by rw [hb.cell];rfl
 have p1:W0.cell? ⟨w.heap.size,1,none⟩=some (.slice A R.length cap):=by rw [hb.cell];rfl
 have HW0:=hid hW0
 have hP0:PAt W0 (privS S (w.heap.size+1)) A R:=(hT.fresh (g:=w.heap.size+1) (by omega)).only (Only.of_below hg)
 cases ok with
 | false=>
  have HB:=hid (hbad (by simp))
  have HF:=hid (failQ_any u c0 s 3 (privS S (w.heap.size+1)) bv bp op W0 hS0 h0 h1)
  have HQ:=hid hq
  have HG:=hid hg
  clear hst hT hq hS0 hg hW0 hP0 hb hgood hbad
  go_enter Tryz.func247,Tryz.ntmps247
  go_upto_region 1 with fail
  rw [←HW0.out]
  go_wp2_with fail
  refine HF.out.mono ?_;rintro e w1 ⟨v,zs,s',c',rfl,⟨A2,c2,rfl,hp2,hk2⟩,h3,h4,h5⟩
  rw [←HB.out] at h5
  have hE:BoxEnd S bv u 161 (hdQ u bp op) r (w.heap.size+1) w w1 A2 zs.length c2:=boxEnd hp2 hk2 h3 ((Only.of_below HG.out).trans h4) h5 (by omega) al ((h4.block _ HQ.out.lt (by omega)).trans HQ.out)
  obtain ⟨⟨k0,k1,q0,q1⟩,⟨y0,y1⟩,HE2⟩:=hE
  have HE3:=hid HE2
  clear HE2 hp2 hk2 h3 h4 h5 HF
  go_wp2
  refine bodyPost_ret (v:=poV u A2 zs.length c2) (by simp [results,Tryz.results247,go_sem,y0,y1]) rfl ?_
  exact HE3.out
 | true=>
  by_cases hlen:R.length≤120
  ·obtain ⟨hok,hres⟩:=hgood rfl hlen
   have hE:BoxEnd S bv u 161 (hdQ u bp op) r (w.heap.size+1) w W0 A R.length cap:=boxEnd hP0 hok hS0 (Only.of_below hg) hres (by omega) al hq
   obtain ⟨⟨k0,k1,q0,q1⟩,⟨y0,y1⟩,HE2⟩:=hE
   have HE3:=hid HE2
   have hl2:¬ ((R.length:Int) > 120):=by omega
   clear hst hT hq hS0 hg hW0 hP0 hb hgood hbad HE2 hok hres
   go_enter Tryz.func247,Tryz.ntmps247
   go_upto_region 1 with fail
   rw [←HW0.out]
   go_wp2
   refine bodyPost_ret (v:=poV u A R.length cap) (by simp [results,Tryz.results247,go_sem,y0,y1]) rfl ?_
   exact HE3.out
  ·have HB:=hid (hbad (fun h=>hlen h.2))
   have HF:=hid (failQ_any u c0 s 3 (privS S (w.heap.size+1)) bv bp op W0 hS0 h0 h1)
   have HQ:=hid hq
   have HG:=hid hg
   have hl2:(R.length:Int) > 120:=by omega
   clear hst hT hq hS0 hg hW0 hP0 hb hgood hbad hlen
   go_enter Tryz.func247,Tryz.ntmps247
   go_upto_region 1 with fail
   rw [←HW0.out]
   go_wp2_with fail
   refine HF.out.mono ?_;rintro e w1 ⟨v,zs,s',c',rfl,⟨A2,c2,rfl,hp2,hk2⟩,h3,h4,h5⟩
   rw [←HB.out] at h5
   have hE:BoxEnd S bv u 161 (hdQ u bp op) r (w.heap.size+1) w w1 A2 zs.length c2:=boxEnd hp2 hk2 h3 ((Only.of_below HG.out).trans h4) h5 (by omega) al ((h4.block _ HQ.out.lt (by omega)).trans HQ.out)
   obtain ⟨⟨k0,k1,q0,q1⟩,⟨y0,y1⟩,HE2⟩:=hE
   have HE3:=hid HE2
   clear HE2 hp2 hk2 h3 h4 h5 HF
   go_wp2
   refine bodyPost_ret (v:=poV u A2 zs.length c2) (by simp [results,Tryz.results247,go_sem,y0,y1]) rfl ?_
   exact HE3.out
theorem numberQ_any (u c0 s:Int) (bv bp op b o cap:Nat) (A:Option Addr) (ts:List Term') (w:World) (hst:Cells w bv 161 (hdQ u bp op++[.int .i64 s,.int .i64 c0])) (hx1:w.cell? ⟨b,o+1,none⟩=some (.slice A ts.length cap)) (hT:TmsAt w A ts) (hok:polyOk u ts=true) :
  Calls Tryz.prog 246 #[.pointer (some ⟨bv,0,none⟩),ptr b o] w fun e w'=>∃ n s' c',e=.returned (.int .i64 n)∧Cells w' bv 161 (hdQ u bp op++[.int .i64 s',.int .i64 c'])∧Only (fun q=>q=bv) w w'∧NumR ts s c0 n s' c':=by
 have hus:=polyOk_size hok
 have HD:=hid (degreeS_any b o u A cap ts w hx1 hT hok)
 have hbl:b<w.heap.size:=World.block_lt_of_cell? _ _ hx1
 by_cases hd:0<mdgL ts ts.length
 ·have hn:=(numT_none hok).2 hd
  have HN:=hid hn
  have HF:=hid (failQ_any u c0 s 4 (fun _=>False) bv bp op w hst hus.1 hus.2.1)
  generalize mdgL ts ts.length=dd at *
  clear hst hT hok hn hus
  go_enter Tryz.func246,Tryz.ntmps246
  go_wp2_with fail
  refine HD.out.mono ?_;rintro e w' ⟨rfl,rfl⟩
  go_wp2_with fail
  refine HF.out.mono ?_;rintro e w1 ⟨v,zs,s',c',rfl,_,h3,h4,h5⟩
  have HR:Hid (∃ n s' c',Ending.returned (.int .i64 0)=.returned (.int .i64 n)∧Cells w1 bv 161 (hdQ u bp op++[.int .i64 s',.int .i64 c'])∧Only (fun q=>q=bv) w w1∧NumR ts s c0 n s' c'):=⟨0,s',c',rfl,h3,h4,by unfold NumR;rw [HN.out];exact ⟨rfl,h5⟩⟩
  clear h3 h4 h5
  go_wp2
  go_ret
  exact HR.out
 ·have hn:=numT_some hok hd
  have HST:=hid hst
  have hd2:¬ (mdgL ts ts.length > 0):=hd
  generalize mdgL ts ts.length=dd at *
  cases ts with
  | nil=>
   have HN:=hid hn
   clear hst hT hok hn hus
   go_enter Tryz.func246,Tryz.ntmps246
   go_wp2_with fail
   refine HD.out.mono ?_;rintro e w' ⟨rfl,rfl⟩
   go_wp2
   go_ret
   exact ⟨0,s,c0,rfl,HST.out,Only.refl _ _,by unfold NumR;exact ⟨rfl,rfl,rfl⟩⟩
  | cons t r=>
   obtain ⟨bt,ot,rfl,hbt,hc⟩:=hT (by simp)
   obtain ⟨A1,c1,k0,k1,_,_⟩:=hc 0 t rfl
   rw [Nat.zero_mul,Nat.add_zero] at k1
   rw [if_neg (by simp),show tmAt (t :: r) 0=t from rfl] at hn
   have hl:0<(t :: r).length:=by simp
   have HN:=hid hn
   obtain ⟨n,hnn⟩:∃ n,n=(t :: r).length:=⟨_,rfl⟩
   rw [←hnn] at hx1 hl
   have hli:(0:Int)<(n:Int):=by omega
   have hl0:((n:Int)==0)=false:=by simp;omega
   obtain ⟨tc,htc⟩:∃ tc,tc=t.2:=⟨_,rfl⟩
   rw [←htc] at k1 HN
   clear hst hT hok hn hus hc k0 hnn htc
   go_enter Tryz.func246,Tryz.ntmps246
   go_wp2_with fail
   refine HD.out.mono ?_;rintro e w' ⟨rfl,rfl⟩
   go_wp2
   go_ret
   exact ⟨tc,s,c0,rfl,HST.out,Only.refl _ _,by unfold NumR;rw [HN.out];exact ⟨rfl,rfl,rfl⟩⟩
end
section
open Go.RowKit Plain
theorem mk_zeroE (n:Nat):(mk n fun _=>(0:Int))=zeroE n:=by
 unfold mk zeroE
 refine List.ext_getElem (by simp) fun i h1 h2=>by simp
theorem constQ_any (u n:Int) (bv bp op:Nat) (s c0:Value) (w:World) (hst:Cells w bv 161 (hdQ u bp op++[s,c0])) (h0:0≤u) (h1:u≤12) (_n0:0≤n) (_n1:n≤1000002) :
  Calls Tryz.prog 198 #[.pointer (some ⟨bv,0,none⟩),.int .i64 n] w (PolyR u (constT u n) w):=by
 obtain ⟨i0,hi,hz0,hz1,hz2⟩:=info_parts Tryz.infoI
 obtain ⟨j0,hj,hy0,hy1,hy2⟩:=info_parts Tryz.infoT
 obtain ⟨un,rfl⟩:∃ m:Nat,u=m:=⟨u.toNat,by omega⟩
 have hun:un≤12:=by omega
 have al:=hst.lt
 obtain ⟨W0,hW0⟩:∃ W0,W0=(w.alloc (.cells #[.int .i64 0,.slice none 0 0] 86)).alloc (.cells #[.int .i64 un,.slice none 0 0] 86):=⟨_,rfl⟩
 have a1:w.cell? ⟨bv,1,none⟩=some (.int .i64 un):=by rw [hst.cell];rfl
 have a1':(w.alloc (.cells #[.int .i64 0,.slice none 0 0] 86)).cell? ⟨bv,1,none⟩=some (.int .i64 un):=keepC a1 (by go_grown)
 have hg:Below w.heap.size w W0:=by rw [hW0];go_grown
 have hs0:W0.heap.size=w.heap.size+2:=by rw [hW0];simp
 have hq:Cells W0 w.heap.size 86 [.int .i64 0,.slice none 0 0]:=by rw [hW0];exact (Cells.new w 86 _).next (by go_grown)
 have hb:Cells W0 (w.heap.size+1) 86 [.int .i64 un,.slice none 0 0]:=by
  rw [hW0]
  have:=Cells.new (w.alloc (.cells #[.int .i64 0,.slice none 0 0] 86)) 86 [.int .i64 un,.slice none 0 0]
  simpa using this
 have b1:W0.cell? ⟨bv,1,none⟩=some (.int .i64 un):=keepC a1 hg
 have p0:W0.cell? ⟨w.heap.size+1,0,none⟩=some (.int .i64 un):=by rw [hb.cell];rfl
 have p1:W0.cell? ⟨w.heap.size+1,1,none⟩=some (.slice none 0 0):=by rw [hb.cell];rfl
 have HW0:=hid hW0
 by_cases hn:n=0
 ·have hnb:(n != 0)=false:=by simpa using hn
  have hc:constT (un:Int) n=[]:=by unfold constT;rw [if_pos hn]
  rw [hc]
  have d1:=hq.set_ 0 (.int .i64 un)
  have d2:=d1.set_ 1 (.slice none 0 0)
  have x0:=d1.cell 0
  have x1:=d2.cell 1
  simp only [List.set_cons_zero,List.set_cons_succ,List.getElem?_cons_zero,List.getElem?_cons_succ] at x0 x1
  have k0:W0.cell? ⟨w.heap.size,0,none⟩=some (.int .i64 0):=by rw [hq.cell];rfl
  have k1:W0.cell? ⟨w.heap.size,1,none⟩=some (.slice none 0 0):=by rw [hq.cell];rfl
  have f0:W0.frozen? ⟨w.heap.size,0,none⟩=false:=hq.frozen _
  have f1:W0.frozen? ⟨w.heap.size,1,none⟩=false:=hq.frozen _
  have HE:Hid (PolyR un [] w (.returned (poV un none 0 0)) ((W0.setCell ⟨w.heap.size,0,none⟩ (.int .i64 un)).setCell ⟨w.heap.size,1,none⟩ (.slice none 0 0))):=by
   have hbb:=(hg.setCell (p:=⟨w.heap.size,0,none⟩) (Nat.le_refl _) (.int .i64 (un:Int))).setCell (p:=⟨w.heap.size,1,none⟩) (Nat.le_refl _) (.slice none 0 0)
   exact ⟨none,0,rfl,RT.empty _ _ hbb.size _,hbb⟩
  clear d1 d2 hst hg hq hb hW0 hn hc
  go_enter Tryz.func198,Tryz.ntmps198
  go_upto_region 2 with fail
  rw [←HW0.out]
  go_wp2
  refine bodyPost_ret (v:=poV un none 0 0) (by simp [results,Tryz.results198,go_sem,x0,x1]) rfl ?_
  exact HE.out
 ·have hnb:(n != 0)=true:=by simpa using hn
  have HC:Hid (constT (un:Int) n=[(zeroE un,n)]):=by show _=_;unfold constT;rw [if_neg hn];rfl
  have HQ:=hid hq
  have HB:=hid hb
  have HG:=hid hg
  have HUP:Hid (∀ wx,Below W0.heap.size W0 wx→wx.cell? ⟨bv,1,none⟩=some (.int .i64 un)∧wx.cell? ⟨w.heap.size+1,1,none⟩=some (.slice none 0 0)∧wx.frozen? ⟨w.heap.size+1,1,none⟩=false∧wx.cell? ⟨w.heap.size+1,0,none⟩=some (.int .i64 un)):=fun wx hx=>⟨keepC b1 hx,keepC p1 hx,(hb.next hx).frozen _,keepC p0 hx⟩
  have HZ0:=hid hs0
  clear hst hg hq hb hW0 hn a1 p0 p1 hs0
  go_enter Tryz.func198,Tryz.ntmps198
  go_upto_region 2 with fail
  rw [←HW0.out]
  go_wp2
  go_loopw [6,7] (fun o i wr=>∃ (k:Nat) (Av:Option Addr) (cp:Nat),k≤un∧i=.int .i64 (k:Int)∧o=.slice Av k cp∧Hid (IntRow wr W0.heap.size (.slice Av k cp) (mk k fun _=>0))∧Hid (Below W0.heap.size W0 wr)) (fun _ i _=>un - (intOf i).toNat)
  case atStart=>exact ⟨0,_,_,by omega,by go_num,rfl,rowStart W0 _,by show Below _ _ _;go_grown⟩
  case round=>
   clear b1
   obtain ⟨k,Av,cp,hk,rfl,rfl,HR,HBW⟩:=hrel
   obtain ⟨b1,b2,b3,b4⟩:=HUP.out wr HBW.out
   have hbvl:bv<wr.heap.size:=by have:=HBW.out.size;have:=HZ0.out;omega
   by_cases hlt:k<un
   ·have hki:(k:Int)<(un:Int):=by omega
    go_wp2_with (at_builtin;refine wpList_append_own _ rfl _ _ 28 rfl W0.heap.size 2 i0 (.int .i64 0) 1 8 Tryz.underlying28 hi hz0 hz1 hz2 rfl (by decide) _ k _ rfl ((HR.out.ownN (mk_length _ _).symm).alloc _) ⟨wr.heap.size,0,none⟩ 1 1 [.int .i64 0] rfl rfl ?c1 ?c2 ?c3 ?c4 ?c5 ?_)
    try (case c1=>exact cell_one_new _ _ _)
    try (case c2=>first | rfl | (intro u hu;simp at hu;subst hu;rfl))
    case c3=>unfold maxLen;omega
    case c4=>omega
    case c5=>have:=HBW.out.size;simp;try omega
    intro v2 w2 hown hgr _
    obtain ⟨⟨A2,c2,rfl⟩,hr2,hb2⟩:=rowNext (F:=fun _=>(0:Int)) HR.out HBW.out (by go_grown) rfl hown hgr
    have HR2:=hid hr2
    have HB2:=hid hb2
    clear hr2 hb2 hown hgr HR HBW b1 b2 b3 b4
    go_wp2
    go_roundw
    case rel=>exact ⟨k+1,A2,c2,by omega,by go_num,rfl,HR2.out,HB2.out⟩
    case measure=>simp [intOf];omega
   ·obtain rfl:k=un:=by omega
    have hrow:IntRow wr W0.heap.size (.slice Av k cp) (zeroE k):=by have:=HR.out;rwa [mk_zeroE] at this
    have HROW:=hid hrow
    have hwl:w.heap.size+1<wr.heap.size:=by have:=HBW.out.size;have:=HZ0.out;omega
    have hz2:W0.heap.size≤w.heap.size+2∧w.heap.size+2≤W0.heap.size:=by have:=HZ0.out;omega
    obtain ⟨us0,hTP⟩:=TRow.nilv W0 W0.heap.size
    obtain rfl:us0=[]:=List.length_eq_zero_iff.1 hTP.len
    have HTP:=hid hTP
    clear hrow hTP HR
    go_wp2_with (at_builtin;refine wpList_append_own _ rfl _ _ 84 rfl W0.heap.size 173 j0 (.agg #[.slice none 0 0,.int .i64 0]) 2 32 Tryz.underlying84 hj hy0 hy1 hy2 rfl (by decide) _ 0 [] rfl (World.ownsRow_nil _ _ _ _) ⟨wr.heap.size,0,none⟩ 1 1 [.slice Av k cp,.int .i64 n] rfl rfl ?d1 ?d2 ?d3 ?d4 ?d5 ?_)
    try (case d1=>exact cell_tmn _ _ _ _)
    try (case d2=>first | rfl | (intro u hu;simp at hu;rcases hu with rfl | rfl<;>rfl))
    case d3=>unfold maxLen;omega
    case d4=>omega
    case d5=>have:=HBW.out.size;simp;try omega
    intro v2 w2 hown hgr _
    have hba:Below wr.heap.size wr (wr.alloc (.cells #[.slice Av k cp,.int .i64 n] 173)):=by go_grown
    obtain ⟨hT,hbl⟩:=TParts.push (ts:=[]) (us:=[]) (Av:=none) (cp:=0) (t:=(zeroE k,n)) (u:=.slice Av k cp) HTP.out (Nat.le_refl _) (HBW.out.trans (hba.mono HBW.out.size)) (HROW.out.alloc _) hown hgr
    obtain ⟨A2,c2,rfl⟩:=hT.form
    have hq2:Cells w2 w.heap.size 86 [.int .i64 0,.slice none 0 0]:=HQ.out.next hbl
    have hp2:Cells w2 (w.heap.size+1) 86 [.int .i64 k,.slice none 0 0]:=HB.out.next hbl
    obtain ⟨W3,hW3⟩:∃ W3,W3=w2.setCell ⟨w.heap.size+1,1,none⟩ (.slice A2 1 c2):=⟨_,rfl⟩
    have hs3:W3.heap.size=w2.heap.size:=by rw [hW3];simp [World.setCell]
    have hp3:Cells W3 (w.heap.size+1) 86 [.int .i64 k,.slice A2 1 c2]:=by rw [hW3];exact hp2.set_ 1 _
    have hq3:Cells W3 w.heap.size 86 [.int .i64 0,.slice none 0 0]:=by rw [hW3];exact hq2.far (by simp;try omega) _
    have m1:w2.cell? ⟨w.heap.size+1,1,none⟩=some (.slice none 0 0):=by rw [hp2.cell];rfl
    have mf:w2.frozen? ⟨w.heap.size+1,1,none⟩=false:=hp2.frozen _
    have r0:W3.cell? ⟨w.heap.size+1,0,none⟩=some (.int .i64 k):=by rw [hp3.cell];rfl
    have r1:W3.cell? ⟨w.heap.size+1,1,none⟩=some (.slice A2 1 c2):=by rw [hp3.cell];rfl
    have d1:=hq3.set_ 0 (.int .i64 k)
    have d2:=d1.set_ 1 (.slice A2 1 c2)
    have x0:=d1.cell 0
    have x1:=d2.cell 1
    simp only [List.set_cons_zero,List.set_cons_succ,List.getElem?_cons_zero,List.getElem?_cons_succ] at x0 x1
    have k0:W3.cell? ⟨w.heap.size,0,none⟩=some (.int .i64 0):=by rw [hq3.cell];rfl
    have k1:W3.cell? ⟨w.heap.size,1,none⟩=some (.slice none 0 0):=by rw [hq3.cell];rfl
    have f0:W3.frozen? ⟨w.heap.size,0,none⟩=false:=hq3.frozen _
    have f1:W3.frozen? ⟨w.heap.size,1,none⟩=false:=hq3.frozen _
    have HE:Hid (PolyR k (constT k n) w (.returned (poV k A2 1 c2)) ((W3.setCell ⟨w.heap.size,0,none⟩ (.int .i64 k)).setCell ⟨w.heap.size,1,none⟩ (.slice A2 1 c2))):=by
     rw [show PolyR k (constT k n)=PolyR k [(zeroE k,n)] by rw [HC.out]]
     have hO:Only (fun q=>q=w.heap.size∨q=w.heap.size+1) w2 ((W3.setCell ⟨w.heap.size,0,none⟩ (.int .i64 k)).setCell ⟨w.heap.size,1,none⟩ (.slice A2 1 c2)):=by
      rw [hW3]
      exact ⟨rfl,rfl,rfl,by simp [World.setCell],fun q _ hq=>((Below.heap_setCell _ _ _ _ (fun e=>hq (.inl e))).trans (Below.heap_setCell _ _ _ _ (fun e=>hq (.inl e)))).trans (Below.heap_setCell _ _ _ _ (fun e=>hq (.inr e)))⟩
     have hrt:=(hT.only hO (fun q hq e=>by rcases e with e | e<;>omega)).rt (cap:=c2) (A:=A2) (by have:=hO.size;have:=hbl.size;omega)
     have hb2:Below w.heap.size w w2:=HG.out.trans (hbl.mono (by omega))
     have hbf:Below w.heap.size w ((W3.setCell ⟨w.heap.size,0,none⟩ (.int .i64 k)).setCell ⟨w.heap.size,1,none⟩ (.slice A2 1 c2)):=hb2.trans (hO.below hb2.size (fun q hq=>by rcases hq with e | e<;>omega))
     exact ⟨A2,c2,rfl,RT.lowerR hrt (by omega) (by omega),hbf⟩
    have HW3:=hid hW3
    clear d1 d2 hq2 hp2 hq3 hp3 hT hbl hown hgr hba hW3 hs3 HROW HTP HBW b1 b2 b3 b4
    go_upto_region 9 with fail
    rw [←HW3.out]
    go_wp2
    refine bodyPost_ret (v:=poV k A2 1 c2) (by simp [results,Tryz.results198,go_sem,x0,x1]) rfl ?_
    exact HE.out
structure SdInP (w:World) (B:Nat) (S:Nat→Prop) (u:Int) (P:List Fn) (fn:Int) (x:Nd) (b o:Nat) (A:Option Addr) (env:List (List Term')) (ecap:Nat):Prop where
 node:ElAt w B x.k x.n x.p x.c x.ks b o
 envA:PEnv w S u A env
 el:env.length≤ecap
 em:ecap≤maxLen
 big:env.length+x.ks.depth≤1000000
 size:x.ks.size≤400
 form:formed P fn env.length x=true
 f0:0≤fn
 f1:fn≤P.length
theorem SdInP.parts {w:World} {B:Nat} {S:Nat→Prop} {u:Int} {P:List Fn} {fn:Int} {x:Nd} {b o:Nat} {A:Option Addr} {env:List (List Term')} {ecap:Nat} (h:SdInP w B S u P fn x b o A env ecap):∃ K cap bk ok,b<B∧w.cell? ⟨b,o,none⟩=some (.int .i64 x.k)∧w.cell? ⟨b,o+1,none⟩=some (.int .i64 x.n)∧w.cell? ⟨b,o+2,none⟩=some (.int .i64 x.p)∧w.cell? ⟨b,o+3,none⟩=some (.int .i64 x.c) ∧
  w.cell? ⟨b,o+4,none⟩=some (.slice K x.ks.len cap)∧cap≤9223372036854775807∧x.ks.len≤cap∧(0<x.ks.len→K=some ⟨bk,ok,none⟩)∧∀ i y,x.ks.get? i=some y→ElAt w B y.k y.n y.p y.c y.ks bk (ok+i*5):=by
 obtain ⟨hb,h0,h1,h2,h3,K,cap,b',o',h4,hc,hm,hK,hk⟩:=h.node
 exact ⟨K,cap,b',o',hb,h0,h1,h2,h3,h4,by unfold maxLen at hm;omega,hc,hK,fun i y hy=>hk.get hy⟩
theorem SdInP.kid {w w':World} {B g:Nat} {S:Nat→Prop} {u:Int} {P:List Fn} {fn:Int} {x y:Nd} {b o bk ok:Nat} {A:Option Addr} {env:List (List Term')} {ecap j:Nat} (h:SdInP w B S u P fn x b o A env ecap) (ho:Only S w w') (hg:w.heap.size≤g)
  (hy:x.ks.get? j=some y) (hk:x.k≠9∨j≠1) (hE:ElAt w' B y.k y.n y.p y.c y.ks bk ok):SdInP w' B (privS S g) u P fn y bk ok A env ecap:=by
 have hf:=formed_kids h.form hy
 have hkv:kidVars x.k env.length j=env.length:=by
  rcases hk with hk | hk
  ·exact kidVars_ne hk
  ·exact kidVars_no hk
 rw [hkv] at hf
 have hd:=Es.get?_depth hy
 have hs:=Es.get?_size hy
 exact ⟨hE,h.envA.fresh ho hg,h.el,h.em,by have:=h.big;omega,by have:=h.size;omega,hf,h.f0,h.f1⟩
theorem SdInP.self {w w':World} {B g:Nat} {S:Nat→Prop} {u:Int} {P:List Fn} {fn:Int} {x:Nd} {b o:Nat} {A:Option Addr} {env:List (List Term')} {ecap:Nat} (h:SdInP w B S u P fn x b o A env ecap) (ho:Only S w w') (hb:Below B w w') (hg:w.heap.size≤g):SdInP w' B (privS S g) u P fn x b o A env ecap:=
 ⟨h.node.below hb,h.envA.fresh ho hg,h.el,h.em,h.big,h.size,h.form,h.f0,h.f1⟩
def ExprQ (P:List Fn) (u:Int) (f:Nat):Prop:=∀ (x:Nd) (env:List (List Term')) (s:Int) (t:Nat) (c0 fn:Int) (b o B:Nat) (S:Nat→Prop) (bv:Nat) (A:Option Addr) (ecap bp op:Nat) (w:World),SvIn w B bv 1 P bp op→SIn w B S bv u→Cells w bv 161 (hdQ u bp op++[.int .i64 s,.int .i64 c0])→(c0=0→s=(t:Int)∧t≤3000∧3001≤t+f) →
 SdInP w B S u P fn x b o A env ecap →
 Calls Tryz.prog 123 #[.pointer (some ⟨bv,0,none⟩),ptr b o,.slice A env.length ecap] w (PPost S bv u 161 (hdQ u bp op) (pvC u P f c0 x env t) w)
theorem exprQ_dead (u:Int) (env:List (List Term')) (s c0:Int) (b o B:Nat) (S:Nat→Prop) (bv:Nat) (A:Option Addr) (ecap bp op:Nat) (w:World) (hS:SIn w B S bv u) (hst:Cells w bv 161 (hdQ u bp op++[.int .i64 s,.int .i64 c0])) (hc:c0≠0) :
  Calls Tryz.prog 123 #[.pointer (some ⟨bv,0,none⟩),ptr b o,.slice A env.length ecap] w (PPost S bv u 161 (hdQ u bp op) (.err c0) w):=by
 have al:=hst.lt
 obtain ⟨W0,hW0⟩:∃ W0,W0=w.alloc (.cells #[.int .i64 0,.slice none 0 0] 86):=⟨_,rfl⟩
 have hg:Below w.heap.size w W0:=by rw [hW0];go_grown
 have hq:Cells W0 w.heap.size 86 [.int .i64 0,.slice none 0 0]:=by rw [hW0];exact Cells.new w _ _
 have hS0:=hst.next hg
 have a3:W0.cell? ⟨bv,3,none⟩=some (.int .i64 c0):=by rw [hS0.cell];rfl
 have hl0:bv<W0.heap.size:=hS0.lt
 have hc1:(c0 != 0)=true:=by simpa using hc
 have hF:failC c0 c0=c0:=if_neg hc
 have HF:=hid (failQ_any u c0 s c0 (privS S w.heap.size) bv bp op W0 hS0 hS.u0 hS.u1)
 rw [hF] at HF
 have HW0:=hid hW0
 have HQ:=hid hq
 have HG:=hid hg
 clear hst hS hq hg hS0 hW0 hc hF
 go_enter Tryz.func123,Tryz.ntmps123
 go_upto_region 1 with fail
 rw [←HW0.out]
 go_wp2_with fail
 refine HF.out.mono ?_;rintro e w1 ⟨v,zs,s',c',rfl,⟨A2,c2,rfl,hp2,hk2⟩,h3,h4,h5⟩
 have hE:BoxEnd S bv u 161 (hdQ u bp op) (.err c0) w.heap.size w w1 A2 zs.length c2:=boxEnd hp2 hk2 h3 ((Only.of_below HG.out).trans h4) h5 (Nat.le_refl _) al ((h4.block _ HQ.out.lt (by omega)).trans HQ.out)
 clear hp2 hk2 h3 h4 h5 HF
 obtain ⟨⟨c0,c1,q0,q1⟩,⟨y0,y1⟩,HE2⟩:=hE
 have HE3:=hid HE2
 clear HE2
 go_wp2
 refine bodyPost_ret (v:=poV u A2 zs.length c2) (by simp [results,Tryz.results123,go_sem,y0,y1]) rfl ?_
 exact HE3.out
theorem exprQ_full (u:Int) (env:List (List Term')) (b o B:Nat) (S:Nat→Prop) (bv:Nat) (A:Option Addr) (ecap bp op:Nat) (w:World) (hS:SIn w B S bv u) (hst:Cells w bv 161 (hdQ u bp op++[.int .i64 (3000:Nat),.int .i64 0])) :
  Calls Tryz.prog 123 #[.pointer (some ⟨bv,0,none⟩),ptr b o,.slice A env.length ecap] w (PPost S bv u 161 (hdQ u bp op) (.err 7) w):=by
 have al:=hst.lt
 obtain ⟨W0,hW0⟩:∃ W0,W0=w.alloc (.cells #[.int .i64 0,.slice none 0 0] 86):=⟨_,rfl⟩
 have hg:Below w.heap.size w W0:=by rw [hW0];go_grown
 have hq:Cells W0 w.heap.size 86 [.int .i64 0,.slice none 0 0]:=by rw [hW0];exact Cells.new w _ _
 have hS0:=hst.next hg
 have a2:W0.cell? ⟨bv,2,none⟩=some (.int .i64 3000):=by rw [hS0.cell];rfl
 have a3:W0.cell? ⟨bv,3,none⟩=some (.int .i64 0):=by rw [hS0.cell];rfl
 have hl0:bv<W0.heap.size:=hS0.lt
 have HF:=hid (failQ_any u 0 (3000:Nat) 7 (privS S w.heap.size) bv bp op W0 hS0 hS.u0 hS.u1)
 have HW0:=hid hW0
 have HQ:=hid hq
 have HG:=hid hg
 clear hst hS hq hg hS0 hW0
 go_enter Tryz.func123,Tryz.ntmps123
 go_upto_region 1 with fail
 rw [←HW0.out]
 go_wp2_with fail
 refine HF.out.mono ?_;rintro e w1 ⟨v,zs,s',c',rfl,⟨A2,c2,rfl,hp2,hk2⟩,h3,h4,h5⟩
 have hE:BoxEnd S bv u 161 (hdQ u bp op) (.err 7) w.heap.size w w1 A2 zs.length c2:=boxEnd hp2 hk2 h3 ((Only.of_below HG.out).trans h4) h5 (Nat.le_refl _) al ((h4.block _ HQ.out.lt (by omega)).trans HQ.out)
 clear hp2 hk2 h3 h4 h5 HF
 obtain ⟨⟨c0,c1,q0,q1⟩,⟨y0,y1⟩,HE2⟩:=hE
 have HE3:=hid HE2
 clear HE2
 go_wp2
 refine bodyPost_ret (v:=poV u A2 zs.length c2) (by simp [results,Tryz.results123,go_sem,y0,y1]) rfl ?_
 exact HE3.out
structure QvSt (w W:World) (B:Nat) (S:Nat→Prop) (bv:Nat) (u:Int) (P:List Fn) (bp op s:Nat):Prop where
 ev:SvIn W B bv 1 P bp op
 si:SIn W B (privS S w.heap.size) bv u
 st:Cells W bv 161 (hdQ u bp op++[.int .i64 ((s+1:Nat):Int),.int .i64 0])
 only:Only (fun q=>q=bv) w W
 rb:Cells W w.heap.size 86 [.int .i64 0,.slice none 0 0]
 size:W.heap.size=w.heap.size+1
theorem qvStep {w:World} {B bv:Nat} {S:Nat→Prop} {u:Int} {P:List Fn} {bp op s:Nat} (hI:SvIn w B bv 1 P bp op) (hS:SIn w B S bv u) (hst:Cells w bv 161 (hdQ u bp op++[.int .i64 s,.int .i64 0])) :
  QvSt w ((w.alloc (.cells #[.int .i64 0,.slice none 0 0] 86)).setCell ⟨bv,2,none⟩ (.int .i64 ((s:Int)+1))) B S bv u P bp op s:=by
 have hl:=hI.lt
 have hB:=hI.blow
 have hg:Below w.heap.size w (w.alloc (.cells #[.int .i64 0,.slice none 0 0] 86)):=by go_grown
 have hsz:((w.alloc (.cells #[.int .i64 0,.slice none 0 0] 86)).setCell ⟨bv,2,none⟩ (.int .i64 ((s:Int)+1))).heap.size=w.heap.size+1:=by simp [World.setCell]
 have ho1:Only (fun q=>q=bv) (w.alloc (.cells #[.int .i64 0,.slice none 0 0] 86)) ((w.alloc (.cells #[.int .i64 0,.slice none 0 0] 86)).setCell ⟨bv,2,none⟩ (.int .i64 ((s:Int)+1))):=⟨rfl,rfl,rfl,by simp [World.setCell],fun q _ hq=>Below.heap_setCell _ _ _ _ hq⟩
 have ho:=(Only.of_below (S:=fun q=>q=bv) hg).trans ho1
 exact ⟨hI.only ho,hS.fresh (by omega) (Nat.le_refl _) (by omega) (by omega),(hst.next hg).set_ 2 (.int .i64 ((s:Int)+1)),ho,(Cells.new w 86 _).far (show w.heap.size≠bv by omega) _,hsz⟩
theorem exprQ_num (P:List Fn) (x:Nd) (u:Int) (env:List (List Term')) (t:Nat) (fn:Int) (b o B:Nat) (S:Nat→Prop) (bv:Nat) (A:Option Addr) (ecap bp op:Nat) (w:World) (hI:SvIn w B bv 1 P bp op) (hS:SIn w B S bv u) (hst:Cells w bv 161 (hdQ u bp op++[.int .i64 t,.int .i64 0])) (hN:SdInP w B S u P fn x b o A env ecap) (hs:t<3000) (hk:x.k=1) (x0:0≤x.n) (x1:x.n≤1000002) :
  Calls Tryz.prog 123 #[.pointer (some ⟨bv,0,none⟩),ptr b o,.slice A env.length ecap] w (PPost S bv u 161 (hdQ u bp op) (.ok (constT u x.n) (t+1)) w):=by
 have al:=hI.lt
 have hB:=hI.blow
 have u0:=hS.u0
 have u1:=hS.u1
 have hQ:=qvStep hI hS hst
 obtain ⟨W0,hW0⟩:∃ W0,W0=w.alloc (.cells #[.int .i64 0,.slice none 0 0] 86):=⟨_,rfl⟩
 obtain ⟨W1,hW1⟩:∃ W1,W1=W0.setCell ⟨bv,2,none⟩ (.int .i64 ((t:Int)+1)):=⟨_,rfl⟩
 rw [←hW0,←hW1] at hQ
 have hg0:Below w.heap.size w W0:=by rw [hW0];go_grown
 have hS0:=hst.next hg0
 have hW0l:bv<W0.heap.size:=hS0.lt
 have a2:W0.cell? ⟨bv,2,none⟩=some (.int .i64 t):=by rw [hS0.cell];rfl
 have a3:W0.cell? ⟨bv,3,none⟩=some (.int .i64 0):=by rw [hS0.cell];rfl
 have z2:W0.frozen? ⟨bv,2,none⟩=false:=hS0.frozen _
 have e1:((t:Int)==3000)=false:=by simp;omega
 obtain ⟨K,cap,bk,ok,hbB,k0,k1,k2,k3,k4,hcap,hlc,hK,hkid⟩:=hN.parts
 have hbw:b<w.heap.size:=by omega
 have hbn:b≠bv:=by omega
 have j0:W1.cell? ⟨b,o,none⟩=some (.int .i64 x.k):=(hQ.only.cell (a:=⟨b,_,none⟩) hbw hbn).trans k0
 have j1:W1.cell? ⟨b,o+1,none⟩=some (.int .i64 x.n):=(hQ.only.cell (a:=⟨b,_,none⟩) hbw hbn).trans k1
 have j4:W1.cell? ⟨b,o+4,none⟩=some (.slice K x.ks.len cap):=(hQ.only.cell (a:=⟨b,_,none⟩) hbw hbn).trans k4
 have hbW:b<W1.heap.size:=by have:=hQ.only.size;omega
 have HW0:=hid hW0
 have HW1:=hid hW1
 have HQ:=hid hQ
 have HKID:=hid hkid
 rw [hk] at j0
 have HC:=hid (constQ_any u x.n bv bp op _ _ W1 hQ.st u0 u1 x0 x1)
 clear hN
 clear hI hst hW0 hW1 hQ hg0 hS0 hkid k0 k1 k2 k3 k4
 go_enter Tryz.func123,Tryz.ntmps123
 go_upto_region 1 with fail
 rw [←HW0.out]
 go_upto_region 6 with fail
 rw [←HW1.out]
 go_wp2_with fail
 refine HC.out.mono ?_;rintro e w1 ⟨A2,c2,rfl,hRT,hb⟩
 have hE:BoxEnd S bv u 161 (hdQ u bp op) (.ok (constT u x.n) (t+1)) w.heap.size w w1 A2 (constT u x.n).length c2:=boxEnd (PAt.of hRT (polyOk_totT (constT_ok u0 u1 x0 x1)) HQ.out.si.lt) (constT_ok u0 u1 x0 x1) (HQ.out.st.next hb) (HQ.out.only.trans (Only.of_below hb)) ⟨rfl,rfl,rfl⟩ (Nat.le_refl _) al (HQ.out.rb.next hb)
 clear hRT hb HC
 obtain ⟨⟨c0,c1,q0,q1⟩,⟨y0,y1⟩,HE2⟩:=hE
 have HE3:=hid HE2
 clear HE2
 go_wp2
 refine bodyPost_ret (v:=poV u A2 (constT u x.n).length c2) (by simp [results,Tryz.results123,go_sem,y0,y1]) rfl ?_
 exact HE3.out
theorem exprQ_var (P:List Fn) (x:Nd) (u:Int) (env:List (List Term')) (t:Nat) (fn:Int) (b o B:Nat) (S:Nat→Prop) (bv:Nat) (A:Option Addr) (ecap bp op:Nat) (w:World) (hI:SvIn w B bv 1 P bp op) (hS:SIn w B S bv u) (hst:Cells w bv 161 (hdQ u bp op++[.int .i64 t,.int .i64 0])) (hN:SdInP w B S u P fn x b o A env ecap) (hs:t<3000) (j:Nat) (ts:List Term') (hk:x.k=2) (hn:x.n=j) (hz:env[j]? = some ts) :
  Calls Tryz.prog 123 #[.pointer (some ⟨bv,0,none⟩),ptr b o,.slice A env.length ecap] w (PPost S bv u 161 (hdQ u bp op) (.ok ts (t+1)) w):=by
 have al:=hI.lt
 have hB:=hI.blow
 have u0:=hS.u0
 have u1:=hS.u1
 have hQ:=qvStep hI hS hst
 obtain ⟨W0,hW0⟩:∃ W0,W0=w.alloc (.cells #[.int .i64 0,.slice none 0 0] 86):=⟨_,rfl⟩
 obtain ⟨W1,hW1⟩:∃ W1,W1=W0.setCell ⟨bv,2,none⟩ (.int .i64 ((t:Int)+1)):=⟨_,rfl⟩
 rw [←hW0,←hW1] at hQ
 have hg0:Below w.heap.size w W0:=by rw [hW0];go_grown
 have hS0:=hst.next hg0
 have hW0l:bv<W0.heap.size:=hS0.lt
 have a2:W0.cell? ⟨bv,2,none⟩=some (.int .i64 t):=by rw [hS0.cell];rfl
 have a3:W0.cell? ⟨bv,3,none⟩=some (.int .i64 0):=by rw [hS0.cell];rfl
 have z2:W0.frozen? ⟨bv,2,none⟩=false:=hS0.frozen _
 have e1:((t:Int)==3000)=false:=by simp;omega
 obtain ⟨K,cap,bk,ok,hbB,k0,k1,k2,k3,k4,hcap,hlc,hK,hkid⟩:=hN.parts
 have hbw:b<w.heap.size:=by omega
 have hbn:b≠bv:=by omega
 have j0:W1.cell? ⟨b,o,none⟩=some (.int .i64 x.k):=(hQ.only.cell (a:=⟨b,_,none⟩) hbw hbn).trans k0
 have j1:W1.cell? ⟨b,o+1,none⟩=some (.int .i64 x.n):=(hQ.only.cell (a:=⟨b,_,none⟩) hbw hbn).trans k1
 have j4:W1.cell? ⟨b,o+4,none⟩=some (.slice K x.ks.len cap):=(hQ.only.cell (a:=⟨b,_,none⟩) hbw hbn).trans k4
 have hbW:b<W1.heap.size:=by have:=hQ.only.size;omega
 have HW0:=hid hW0
 have HW1:=hid hW1
 have HQ:=hid hQ
 have HKID:=hid hkid
 rw [hk] at j0
 rw [hn] at j1
 obtain ⟨b1,o1,Aj,cj,rfl,hbl,c0,c1,hPA,hok⟩:=(hN.envA.fresh (g:=w.heap.size) (Only.of_below (Below.refl w.heap.size w)) (Nat.le_refl _)).get2 (hQ.only.sub fun q e=>by rw [e];exact .inl hS.bv) hz
 have hPW:=hPA.only (hQ.only.sub fun q e=>by rw [e];exact .inl hS.bv)
 have HOK:=hid hok
 have hs1:sclT 1 ts=ts:=sclT_one (polyOk_canon hok)
 have HC:=hid (l05Scaled_any 1 (by omega) (by omega) b1 (o1+j*2) u Aj cj ts W1 c0 c1 hPW.now hok)
 rw [hs1] at HC
 have hjl:j<env.length:=(List.getElem?_eq_some_iff.1 hz).1
 have hjj:(j:Int)<(env.length:Int):=by omega
 have hel:=hN.el
 have hem:ecap≤9223372036854775807:=by have:=hN.em;unfold maxLen at this;omega
 clear hN hPA hPW hok hs1 hz c0 c1
 clear hI hst hW0 hW1 hQ hg0 hS0 hkid k0 k1 k2 k3 k4
 go_enter Tryz.func123,Tryz.ntmps123
 go_upto_region 1 with fail
 rw [←HW0.out]
 go_upto_region 6 with fail
 rw [←HW1.out]
 go_wp2_with fail
 refine HC.out.mono ?_;rintro e w1 ⟨A2,c2,rfl,hTR,hb⟩
 have hRT:=hTR.rt hb.size
 have hE:BoxEnd S bv u 161 (hdQ u bp op) (.ok ts (t+1)) w.heap.size w w1 A2 ts.length c2:=boxEnd (PAt.of hRT (polyOk_totT HOK.out) HQ.out.si.lt) HOK.out (HQ.out.st.next hb) (HQ.out.only.trans (Only.of_below hb)) ⟨rfl,rfl,rfl⟩ (Nat.le_refl _) al (HQ.out.rb.next hb)
 clear hRT hTR hb HC
 obtain ⟨⟨c0,c1,q0,q1⟩,⟨y0,y1⟩,HE2⟩:=hE
 have HE3:=hid HE2
 clear HE2
 go_wp2
 refine bodyPost_ret (v:=poV u A2 ts.length c2) (by simp [results,Tryz.results123,go_sem,y0,y1]) rfl ?_
 exact HE3.out
end
section
open Go.RowKit Plain
theorem negRes {u:Int} {f t:Nat} {P:List Fn} {a:Nd} {env:List (List Term')} {zs:List Term'} {s' c':Int} {rr:Res (List Term')} (h:ResIs (pvC u P f 0 a env t) zs s' c') (hrr:rr=match pv u P f a env t with | .err e=>.err e | .ok z s1=>.ok (sclT 1000002 z) s1):ResIs rr (sclT 1000002 zs) s' c':=by
 unfold pvC at h
 rw [if_pos rfl] at h
 rw [hrr]
 revert h
 cases pv u P f a env t with
 | err e=>intro h;exact h
 | ok z t=>rintro ⟨rfl,h2,h3⟩;exact ⟨rfl,h2,h3⟩
theorem ifNext2 {u:Int} {f t:Nat} {P:List Fn} {a:Nd} {env:List (List Term')} {zs:List Term'} {s' c' n s2 c2:Int} (hres:ResIs (pvC u P f 0 a env t) zs s' c') (hnum:NumR zs s' c' n s2 c2) :
  (c2=0→∃ t1:Nat,s2=t1∧t<t1∧t1≤3000∧numT zs=some n∧pv u P f a env t=.ok zs t1) ∧
  (c2≠0→∀ X Y:Nat→Res (List Term'),(match pv u P f a env t with | .err e=>Res.err e | .ok z s1=>match numT z with | none=>.err 4 | some n=>if n=0 then X s1 else Y s1)=.err c2):=by
 unfold NumR at hnum
 cases hz:numT zs with
 | some m=>
  rw [hz] at hnum
  obtain ⟨rfl,rfl,rfl⟩:=hnum
  refine ⟨fun h=>?_,fun h X Y=>?_⟩
  ·obtain ⟨_,t1,e1,e2,e3,e4⟩:=pvC_next hres h
   exact ⟨t1,e1,e2,e3,rfl,e4⟩
  ·rw [pvC_bad hres h rfl]
 | none=>
  rw [hz] at hnum
  obtain ⟨rfl,hc⟩:=hnum
  by_cases h0:c'=0
  ·rw [if_pos h0] at hc
   obtain ⟨_,t1,e1,e2,e3,e4⟩:=pvC_next hres h0
   refine ⟨fun h=>by omega,fun h X Y=>?_⟩
   rw [e4]
   simp only
   rw [hz,hc]
  ·rw [if_neg h0] at hc
   refine ⟨fun h=>by omega,fun h X Y=>?_⟩
   rw [pvC_bad hres h0 rfl,hc]
theorem boxNew {w1:World} {u:Int} {Az:Option Addr} {n cz:Nat}:Below w1.heap.size w1 (w1.alloc (.cells #[.int .i64 u,.slice Az n cz] 86))∧(w1.alloc (.cells #[.int .i64 u,.slice Az n cz] 86)).cell? ⟨w1.heap.size,0,none⟩=some (.int .i64 u)∧(w1.alloc (.cells #[.int .i64 u,.slice Az n cz] 86)).cell? ⟨w1.heap.size,1,none⟩=some (.slice Az n cz)∧(w1.alloc (.cells #[.int .i64 u,.slice Az n cz] 86)).heap.size=w1.heap.size+1:=by
 have h:=Cells.new w1 86 [.int .i64 u,.slice Az n cz]
 exact ⟨by go_grown,by rw [h.cell];rfl,by rw [h.cell];rfl,by simp⟩
theorem exprQ_neg (P:List Fn) (x:Nd) (u:Int) (f:Nat) (IH:ExprQ P u f) (env:List (List Term')) (t:Nat) (fn:Int) (b o B:Nat) (S:Nat→Prop) (bv:Nat) (A:Option Addr) (ecap bp op:Nat) (w:World) (hI:SvIn w B bv 1 P bp op) (hS:SIn w B S bv u) (hst:Cells w bv 161 (hdQ u bp op++[.int .i64 t,.int .i64 0])) (hN:SdInP w B S u P fn x b o A env ecap) (hs:t<3000) (hf:3001≤t+(f+1)) (hk:x.k=7) :
  Calls Tryz.prog 123 #[.pointer (some ⟨bv,0,none⟩),ptr b o,.slice A env.length ecap] w (PPost S bv u 161 (hdQ u bp op) (pv u P (f+1) x env t) w):=by
 have hl1:=formed_opN (N:=1) hN.form (by rw [hk];exact .inr (.inl ⟨rfl,rfl⟩))
 obtain ⟨a,ha⟩:=Es.get?_some (show 0<x.ks.len by omega)
 have HEV:Hid (pv u P (f+1) x env t=match pv u P f a env (t+1) with | .err e=>.err e | .ok z s1=>.ok (sclT 1000002 z) s1):=by
  show _=_
  rw [pv,if_neg (by omega),if_neg (by omega),if_neg (by omega),if_neg (by omega),if_neg (by omega)]
  rw [evAll_one hl1 ha]
  simp only [pvAll]
  cases pv u P f a env (t+1) with
  | err e=>rfl
  | ok z s1=>simp only;rw [if_neg (by omega),if_neg (by omega)];unfold pvOp;rw [if_neg (by omega),if_neg (by omega),if_neg (by omega),if_pos hk];rfl
 obtain ⟨rr,hrr⟩:∃ rr,rr=pv u P (f+1) x env t:=⟨_,rfl⟩
 rw [←hrr]
 have HRR:=hid (hrr.trans HEV.out)
 clear HEV hrr
 have HIH:=hid IH;clear IH
 have al:=hI.lt
 have hB:=hI.blow
 have u0:=hS.u0
 have u1:=hS.u1
 have hQ:=qvStep hI hS hst
 obtain ⟨W0,hW0⟩:∃ W0,W0=w.alloc (.cells #[.int .i64 0,.slice none 0 0] 86):=⟨_,rfl⟩
 obtain ⟨W1,hW1⟩:∃ W1,W1=W0.setCell ⟨bv,2,none⟩ (.int .i64 ((t:Int)+1)):=⟨_,rfl⟩
 rw [←hW0,←hW1] at hQ
 have hg0:Below w.heap.size w W0:=by rw [hW0];go_grown
 have hS0:=hst.next hg0
 have hW0l:bv<W0.heap.size:=hS0.lt
 have a2:W0.cell? ⟨bv,2,none⟩=some (.int .i64 t):=by rw [hS0.cell];rfl
 have a3:W0.cell? ⟨bv,3,none⟩=some (.int .i64 0):=by rw [hS0.cell];rfl
 have z2:W0.frozen? ⟨bv,2,none⟩=false:=hS0.frozen _
 have e1:((t:Int)==3000)=false:=by simp;omega
 obtain ⟨K,cap,bk,ok,hbB,k0,k1,k2,k3,k4,hcap,hlc,hK,hkid⟩:=hN.parts
 have hbw:b<w.heap.size:=by omega
 have hbn:b≠bv:=by omega
 have j0:W1.cell? ⟨b,o,none⟩=some (.int .i64 x.k):=(hQ.only.cell (a:=⟨b,_,none⟩) hbw hbn).trans k0
 have j1:W1.cell? ⟨b,o+1,none⟩=some (.int .i64 x.n):=(hQ.only.cell (a:=⟨b,_,none⟩) hbw hbn).trans k1
 have j4:W1.cell? ⟨b,o+4,none⟩=some (.slice K x.ks.len cap):=(hQ.only.cell (a:=⟨b,_,none⟩) hbw hbn).trans k4
 have hbW:b<W1.heap.size:=by have:=hQ.only.size;omega
 have HW0:=hid hW0
 have HW1:=hid hW1
 have HQ:=hid hQ
 have HKID:=hid hkid
 rw [hk] at j0
 have hK:=hK (by omega)
 subst hK
 have l0:(0:Int)<(x.ks.len:Int):=by omega
 have l0n:0<x.ks.len:=by omega
 have hea:=(hkid 0 a ha).below (only_below hQ.only hB al)
 rw [Nat.zero_mul,Nat.add_zero] at hea
 have HSa:=hid (hN.kid (hQ.only.sub fun q e=>by rw [e];exact hS.bv) (Nat.le_refl _) ha (.inl (by omega)) hea)
 clear hN hea
 clear hI hst hW0 hW1 hQ hg0 hS0 hkid k0 k1 k2 k3 k4
 go_enter Tryz.func123,Tryz.ntmps123
 go_upto_region 1 with fail
 rw [←HW0.out]
 go_upto_region 6 with fail
 rw [←HW1.out]
 go_wp2_with fail
 refine (HIH.out a env ((t+1:Nat):Int) (t+1) 0 fn bk ok B (privS S w.heap.size) bv A ecap bp op _ HQ.out.ev HQ.out.si HQ.out.st (fun _=>⟨rfl,by omega,by omega⟩) HSa.out).mono ?_;rintro e w1 ⟨v,zs,s',c',rfl,⟨Az,cz,rfl,hpz,hkz⟩,hS1,hO1,hres⟩
 obtain ⟨hb1,x0,x1,hs1⟩:=boxNew (w1:=w1) (u:=u) (Az:=Az) (n:=zs.length) (cz:=cz)
 have HC:=hid (l05Scaled_any 1000002 (by omega) (by omega) w1.heap.size 0 u Az cz zs (w1.alloc (.cells #[.int .i64 u,.slice Az zs.length cz] 86)) x0 x1 (hpz.now.below hb1) hkz)
 have HRES:=hid (negRes hres HRR.out)
 have HOK:=hid (polyOk_scl (k:=1000002) hkz (by omega) (by omega))
 have HO1:=hid (hO1.trans (Only.of_below hb1))
 have HS1:=hid (hS1.next hb1)
 have HSI:=hid (HQ.out.si.mono (HO1.out.size))
 clear hpz hkz hS1 hO1 hres hb1 hs1 HSa
 go_wp2_with fail
 refine HC.out.mono ?_;rintro e w2 ⟨A2,c2,rfl,hTR,hb⟩
 have hRT:=hTR.rt hb.size
 have hE:BoxEnd S bv u 161 (hdQ u bp op) rr w.heap.size w w2 A2 (sclT 1000002 zs).length c2:=boxEnd (PAt.of hRT (polyOk_totT HOK.out) HSI.out.lt) HOK.out (HS1.out.next hb) ((HQ.out.only.trans HO1.out).trans (Only.of_below hb)) HRES.out (Nat.le_refl _) al ((only_cells HQ.out.rb HO1.out (by omega)).next hb)
 clear hRT hTR hb HC x0 x1
 obtain ⟨⟨c0,c1,q0,q1⟩,⟨y0,y1⟩,HE2⟩:=hE
 have HE3:=hid HE2
 clear HE2
 go_wp2
 refine bodyPost_ret (v:=poV u A2 (sclT 1000002 zs).length c2) (by simp [results,Tryz.results123,go_sem,y0,y1]) rfl ?_
 exact HE3.out
theorem branchQ (P:List Fn) (x:Nd) (u:Int) (f:Nat) (IH:ExprQ P u f) (env:List (List Term')) (t:Nat) (fn:Int) (b o B:Nat) (S:Nat→Prop) (bv:Nat) (A:Option Addr) (ecap bp op:Nat) (w:World) (hI:SvIn w B bv 1 P bp op) (hS:SIn w B S bv u) (hst:Cells w bv 161 (hdQ u bp op++[.int .i64 t,.int .i64 0])) (hN:SdInP w B S u P fn x b o A env ecap) (ht:t≤3000) (hf:3001≤t+f) (hk:x.k=8) (a b2 c2:Nd) (ha:x.ks.get? 0=some a) (hb:x.ks.get? 1=some b2) (hc:x.ks.get? 2=some c2) :
  Calls Tryz.prog 200 #[.pointer (some ⟨bv,0,none⟩),ptr b o,.slice A env.length ecap] w (PPost S bv u 161 (hdQ u bp op) (match pv u P f a env t with | .err e=>Res.err e | .ok z s1=>match numT z with | none=>.err 4 | some n=>if n=0 then pv u P f b2 env s1 else pv u P f c2 env s1) w):=by
 have hl3:=formed_op8 hN.form hk
 obtain ⟨rr,hrr⟩:∃ rr,rr=match pv u P f a env t with | .err e=>Res.err e | .ok z s1=>match numT z with | none=>.err 4 | some n=>if n=0 then pv u P f b2 env s1 else pv u P f c2 env s1:=⟨_,rfl⟩
 rw [←hrr]
 have HRR:=hid hrr
 clear hrr
 have HIH:=hid IH;clear IH
 have HHA:=hid ha
 have HHB:=hid hb
 have HHC:=hid hc
 have HK:=hid hk
 clear ha hb hc
 have al:=hI.lt
 have hB:=hI.blow
 have u0:=hS.u0
 have u1:=hS.u1
 obtain ⟨W0,hW0⟩:∃ W0,W0=w.alloc (.cells #[.int .i64 0,.slice none 0 0] 86):=⟨_,rfl⟩
 have hg0:Below w.heap.size w W0:=by rw [hW0];go_grown
 have hs0:W0.heap.size=w.heap.size+1:=by rw [hW0];simp
 have hq:Cells W0 w.heap.size 86 [.int .i64 0,.slice none 0 0]:=by rw [hW0];exact Cells.new w _ _
 have hS0:=hst.next hg0
 have hSI0:SIn W0 B (privS S w.heap.size) bv u:=hS.fresh (by omega) (Nat.le_refl _) (by omega) (by omega)
 have hI0:=hI.only (Only.of_below hg0)
 have hoS:Only S w W0:=Only.of_below hg0
 obtain ⟨K,cap,bk,ok,hbB,k0,k1,k2,k3,k4,hcap,hlc,hK,hkid⟩:=hN.parts
 have hbw:b<w.heap.size:=by omega
 have hbn:b≠bv:=by omega
 have j0:W0.cell? ⟨b,o,none⟩=some (.int .i64 x.k):=keepC k0 hg0
 have j4:W0.cell? ⟨b,o+4,none⟩=some (.slice K x.ks.len cap):=keepC k4 hg0
 have hbW:b<W0.heap.size:=by omega
 have HW0:=hid hW0
 have HKID:=hid hkid
 have HN:=hid hN
 have HI0:=hid hI0
 have HSI0:=hid hSI0
 have HS0:=hid hS0
 have HOS:=hid hoS
 have HQ:=hid hq
 have HG0:=hid hg0
 have HZ0:=hid hs0
 have hK:=hK (by omega)
 subst hK
 have l0:(0:Int)<(x.ks.len:Int):=by omega
 have l1:(1:Int)<(x.ks.len:Int):=by omega
 have l2:(2:Int)<(x.ks.len:Int):=by omega
 have l0n:0<x.ks.len:=by omega
 have l1n:1<x.ks.len:=by omega
 have l2n:2<x.ks.len:=by omega
 have hea:=(hkid 0 a HHA.out).below (hg0.mono (by omega))
 rw [Nat.zero_mul,Nat.add_zero] at hea
 have HSa:=hid (hN.kid hoS (Nat.le_refl _) HHA.out (.inl (by omega)) hea)
 have HK4:=hid k4
 clear hea hk hl3
 clear hI hst hW0 hg0 hS0 hkid k0 k1 k2 k3 k4 hI0 hSI0 hoS hq hs0 hN
 go_enter Tryz.func200,Tryz.ntmps200
 go_upto_region 1 with fail
 rw [←HW0.out]
 go_wp2_with fail
 refine (HIH.out a env (t:Int) t 0 fn bk ok B (privS S w.heap.size) bv A ecap bp op W0 HI0.out HSI0.out HS0.out (fun _=>⟨rfl,by omega,by omega⟩) HSa.out).mono ?_;rintro e w1 ⟨v,zs,s',c',rfl,⟨Az,cz,rfl,hpz,hkz⟩,hS1,hO1,hres⟩
 obtain ⟨hb1,x0,x1,hs1⟩:=boxNew (w1:=w1) (u:=u) (Az:=Az) (n:=zs.length) (cz:=cz)
 have HNU:=hid (numberQ_any u c' s' bv bp op w1.heap.size 0 cz Az zs (w1.alloc (.cells #[.int .i64 u,.slice Az zs.length cz] 86)) (hS1.next hb1) x1 (hpz.now.below hb1) hkz)
 have HRES:=hid hres
 have HO1:=hid (hO1.trans (Only.of_below hb1))
 clear hpz hkz hS1 hO1 hres hb1 hs1 HSa
 go_wp2_with fail
 refine HNU.out.mono ?_;rintro e w2 ⟨n,s2,d2,rfl,hS2,hO2,hnum⟩
 have HIF:=hid (ifNext2 HRES.out hnum)
 have hOO:=HO1.out.trans hO2
 have hOw:Only (fun q=>q=bv) w w2:=(Only.of_below HG0.out).trans hOO
 have d3:w2.cell? ⟨bv,3,none⟩=some (.int .i64 d2):=by rw [hS2.cell];rfl
 have dl:=hS2.lt
 have y4:w2.cell? ⟨b,o+4,none⟩=some (.slice (some ⟨bk,ok,none⟩) x.ks.len cap):=(hOw.cell (a:=⟨b,_,none⟩) hbw hbn).trans HK4.out
 have hb2:b<w2.heap.size:=by have:=hOw.size;omega
 have HI2:=hid (HI0.out.only hOO)
 have HSI2:=hid (HSI0.out.mono hOO.size)
 have HS2:=hid hS2
 have HOO:=hid hOO
 have HOW:=hid hOw
 have HR2:=hid (only_cells HQ.out hOO (by omega))
 have HOSS:Hid (Only S w w2):=hOw.sub fun q e=>by rw [e];exact hS.bv
 clear hS2 hO2 hnum HNU HRES hOO hOw x0 x1
 by_cases hd:d2=0
 ·have hdb:(d2 != 0)=false:=by simpa using hd
  have HIF1:=hid (HIF.out.1 hd)
  subst hd
  by_cases hz:n=0
  ·have z0:(n==0)=true:=by simpa using hz
   have heb:=(HKID.out 1 b2 HHB.out).below (only_below HOW.out hB al)
   rw [Nat.one_mul] at heb
   have HSb:=hid (HN.out.kid HOSS.out (Nat.le_refl _) HHB.out (.inl (by have:=HK.out;omega)) heb)
   obtain ⟨t1,hs2,g2,g3,g4,g5⟩:=HIF1.out
   have HT:=hid (And.intro hs2 (And.intro g2 g3))
   have HQQ:Hid (pvC u P f 0 b2 env t1=rr):=by
    show _=_
    rw [HRR.out,g5]
    simp only
    rw [g4]
    simp only
    rw [if_pos hz]
    unfold pvC
    rw [if_pos rfl]
   clear heb hz hs2 g2 g3 g4 g5
   go_wp2_with fail
   refine (HIH.out b2 env s2 t1 0 fn bk (ok+5) B (privS S w.heap.size) bv A ecap bp op w2 HI2.out HSI2.out HS2.out (fun _=>⟨HT.out.1,HT.out.2.2,by have:=HT.out.2;omega⟩) HSb.out).mono ?_;rintro e w3 ⟨v,ts3,s3,c3,rfl,⟨A3,cp3,rfl,hp3,hk3⟩,hS3,hO3,hres3⟩
   rw [HQQ.out] at hres3
   have hE:BoxEnd S bv u 161 (hdQ u bp op) rr w.heap.size w w3 A3 ts3.length cp3:=boxEnd hp3 hk3 hS3 (HOW.out.trans hO3) hres3 (Nat.le_refl _) al (only_cells HR2.out hO3 (by omega))
   clear hp3 hk3 hS3 hO3 hres3
   obtain ⟨⟨c0,c1,q0,q1⟩,⟨y0,y1⟩,HE2⟩:=hE
   have HE3:=hid HE2
   clear HE2
   go_wp2
   refine bodyPost_ret (v:=poV u A3 ts3.length cp3) (by simp [results,Tryz.results200,go_sem,y0,y1]) rfl ?_
   exact HE3.out
  ·have z0:(n==0)=false:=by simpa using hz
   have heb:=(HKID.out 2 c2 HHC.out).below (only_below HOW.out hB al)
   rw [show 2*5=10 from rfl] at heb
   have HSb:=hid (HN.out.kid HOSS.out (Nat.le_refl _) HHC.out (.inl (by have:=HK.out;omega)) heb)
   obtain ⟨t1,hs2,g2,g3,g4,g5⟩:=HIF1.out
   have HT:=hid (And.intro hs2 (And.intro g2 g3))
   have HQQ:Hid (pvC u P f 0 c2 env t1=rr):=by
    show _=_
    rw [HRR.out,g5]
    simp only
    rw [g4]
    simp only
    rw [if_neg hz]
    unfold pvC
    rw [if_pos rfl]
   clear heb hz hs2 g2 g3 g4 g5
   go_wp2_with fail
   refine (HIH.out c2 env s2 t1 0 fn bk (ok+10) B (privS S w.heap.size) bv A ecap bp op w2 HI2.out HSI2.out HS2.out (fun _=>⟨HT.out.1,HT.out.2.2,by have:=HT.out.2;omega⟩) HSb.out).mono ?_;rintro e w3 ⟨v,ts3,s3,c3,rfl,⟨A3,cp3,rfl,hp3,hk3⟩,hS3,hO3,hres3⟩
   rw [HQQ.out] at hres3
   have hE:BoxEnd S bv u 161 (hdQ u bp op) rr w.heap.size w w3 A3 ts3.length cp3:=boxEnd hp3 hk3 hS3 (HOW.out.trans hO3) hres3 (Nat.le_refl _) al (only_cells HR2.out hO3 (by omega))
   clear hp3 hk3 hS3 hO3 hres3
   obtain ⟨⟨c0,c1,q0,q1⟩,⟨y0,y1⟩,HE2⟩:=hE
   have HE3:=hid HE2
   clear HE2
   go_wp2
   refine bodyPost_ret (v:=poV u A3 ts3.length cp3) (by simp [results,Tryz.results200,go_sem,y0,y1]) rfl ?_
   exact HE3.out
 ·have hdb:(d2 != 0)=true:=by simpa using hd
  have HB2:=hid (HIF.out.2 hd (fun s1=>pv u P f b2 env s1) (fun s1=>pv u P f c2 env s1))
  have HF:=hid (failQ_any u d2 s2 d2 (privS S w.heap.size) bv bp op w2 HS2.out u0 u1)
  have HFC:Hid (failC d2 d2=d2):=if_neg hd
  clear hd
  go_wp2_with fail
  refine HF.out.mono ?_;rintro e w3 ⟨v,ts3,s3,c3,rfl,⟨A3,cp3,rfl,hp3,hk3⟩,hS3,hO3,hres3⟩
  rw [HFC.out,←(show rr=.err d2 from HRR.out.trans HB2.out)] at hres3
  have hE:BoxEnd S bv u 161 (hdQ u bp op) rr w.heap.size w w3 A3 ts3.length cp3:=boxEnd hp3 hk3 hS3 (HOW.out.trans hO3) hres3 (Nat.le_refl _) al (only_cells HR2.out hO3 (by omega))
  clear hp3 hk3 hS3 hO3 hres3 HF
  obtain ⟨⟨c0,c1,q0,q1⟩,⟨y0,y1⟩,HE2⟩:=hE
  have HE3:=hid HE2
  clear HE2
  go_wp2
  refine bodyPost_ret (v:=poV u A3 ts3.length cp3) (by simp [results,Tryz.results200,go_sem,y0,y1]) rfl ?_
  exact HE3.out
theorem exprQ_if (P:List Fn) (x:Nd) (u:Int) (f:Nat) (IH:ExprQ P u f) (env:List (List Term')) (t:Nat) (fn:Int) (b o B:Nat) (S:Nat→Prop) (bv:Nat) (A:Option Addr) (ecap bp op:Nat) (w:World) (hI:SvIn w B bv 1 P bp op) (hS:SIn w B S bv u) (hst:Cells w bv 161 (hdQ u bp op++[.int .i64 t,.int .i64 0])) (hN:SdInP w B S u P fn x b o A env ecap) (hs:t<3000) (hf:3001≤t+(f+1)) (hk:x.k=8) :
  Calls Tryz.prog 123 #[.pointer (some ⟨bv,0,none⟩),ptr b o,.slice A env.length ecap] w (PPost S bv u 161 (hdQ u bp op) (pv u P (f+1) x env t) w):=by
 have hl3:=formed_op8 hN.form hk
 obtain ⟨a,ha⟩:=Es.get?_some (show 0<x.ks.len by omega)
 obtain ⟨b2,hb⟩:=Es.get?_some (show 1<x.ks.len by omega)
 obtain ⟨c2,hc⟩:=Es.get?_some (show 2<x.ks.len by omega)
 have HEV:Hid (pv u P (f+1) x env t=match pv u P f a env (t+1) with | .err e=>.err e | .ok z s1=>match numT z with | none=>.err 4 | some n=>if n=0 then pv u P f b2 env s1 else pv u P f c2 env s1):=by
  show _=_
  rw [pv,if_neg (by omega),if_neg (by omega),if_neg (by omega),if_pos hk,ha,hb,hc]
  all_goals rfl
 obtain ⟨rr,hrr⟩:∃ rr,rr=pv u P (f+1) x env t:=⟨_,rfl⟩
 rw [←hrr]
 have HRR:=hid (hrr.trans HEV.out)
 clear HEV hrr
 have al:=hI.lt
 have hB:=hI.blow
 have u0:=hS.u0
 have u1:=hS.u1
 have hQ:=qvStep hI hS hst
 obtain ⟨W0,hW0⟩:∃ W0,W0=w.alloc (.cells #[.int .i64 0,.slice none 0 0] 86):=⟨_,rfl⟩
 obtain ⟨W1,hW1⟩:∃ W1,W1=W0.setCell ⟨bv,2,none⟩ (.int .i64 ((t:Int)+1)):=⟨_,rfl⟩
 rw [←hW0,←hW1] at hQ
 have hg0:Below w.heap.size w W0:=by rw [hW0];go_grown
 have hS0:=hst.next hg0
 have hW0l:bv<W0.heap.size:=hS0.lt
 have a2:W0.cell? ⟨bv,2,none⟩=some (.int .i64 t):=by rw [hS0.cell];rfl
 have a3:W0.cell? ⟨bv,3,none⟩=some (.int .i64 0):=by rw [hS0.cell];rfl
 have z2:W0.frozen? ⟨bv,2,none⟩=false:=hS0.frozen _
 have e1:((t:Int)==3000)=false:=by simp;omega
 obtain ⟨K,cap,bk,ok,hbB,k0,k1,k2,k3,k4,hcap,hlc,hK,hkid⟩:=hN.parts
 have hbw:b<w.heap.size:=by omega
 have hbn:b≠bv:=by omega
 have j0:W1.cell? ⟨b,o,none⟩=some (.int .i64 x.k):=(hQ.only.cell (a:=⟨b,_,none⟩) hbw hbn).trans k0
 have j1:W1.cell? ⟨b,o+1,none⟩=some (.int .i64 x.n):=(hQ.only.cell (a:=⟨b,_,none⟩) hbw hbn).trans k1
 have j4:W1.cell? ⟨b,o+4,none⟩=some (.slice K x.ks.len cap):=(hQ.only.cell (a:=⟨b,_,none⟩) hbw hbn).trans k4
 have hbW:b<W1.heap.size:=by have:=hQ.only.size;omega
 have HW0:=hid hW0
 have HW1:=hid hW1
 have HQ:=hid hQ
 have HKID:=hid hkid
 rw [hk] at j0
 have HBR:=hid (branchQ P x u f IH env (t+1) fn b o B (privS S w.heap.size) bv A ecap bp op W1 hQ.ev hQ.si hQ.st (hN.self (hQ.only.sub fun q e=>by rw [e];exact hS.bv) (only_below hQ.only hB al) (Nat.le_refl _)) (by omega) (by omega) hk a b2 c2 ha hb hc)
 rw [←HRR.out] at HBR
 clear hN ha hb hc hl3 IH
 clear hI hst hW0 hW1 hQ hg0 hS0 hkid k0 k1 k2 k3 k4
 go_enter Tryz.func123,Tryz.ntmps123
 go_upto_region 1 with fail
 rw [←HW0.out]
 go_upto_region 6 with fail
 rw [←HW1.out]
 go_wp2_with fail
 refine HBR.out.mono ?_;rintro e w3 ⟨v,ts3,s3,c3,rfl,⟨A3,cp3,rfl,hp3,hk3⟩,hS3,hO3,hres3⟩
 have hE:BoxEnd S bv u 161 (hdQ u bp op) rr w.heap.size w w3 A3 ts3.length cp3:=boxEnd hp3 hk3 hS3 (HQ.out.only.trans hO3) hres3 (Nat.le_refl _) al (only_cells HQ.out.rb hO3 (by omega))
 clear hp3 hk3 hS3 hO3 hres3 HBR
 obtain ⟨⟨c0,c1,q0,q1⟩,⟨y0,y1⟩,HE2⟩:=hE
 have HE3:=hid HE2
 clear HE2
 go_wp2
 refine bodyPost_ret (v:=poV u A3 ts3.length cp3) (by simp [results,Tryz.results123,go_sem,y0,y1]) rfl ?_
 exact HE3.out
end
end Go.Proofs.YtgfkglhelfkpoaaGreat
