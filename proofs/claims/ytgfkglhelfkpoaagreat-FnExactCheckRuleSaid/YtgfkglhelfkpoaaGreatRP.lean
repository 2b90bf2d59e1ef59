/- Texts put together: WReg, WSS, WSS2, WSS3, B3, LawEx. -/
import Derived.Test.YtgfkglhelfkpoaaGreatRC
set_option maxRecDepth 100000
set_option maxHeartbeats 1000000
namespace Go.Proofs.YtgfkglhelfkpoaaGreat
section
open Go.RowKit Plain
structure Reg (w:World) (lo hi:Nat) (Φ:World→Prop):Prop where
 le:lo≤hi
 size:hi≤w.heap.size
 now:Φ w
 keep:∀ w1 w2:World,Φ w1→(∀ q,lo≤q→q<hi→w2.heap[q]? = w1.heap[q]?)→Φ w2
theorem Reg.only {w w':World} {lo hi:Nat} {Φ:World→Prop} {S:Nat→Prop} (h:Reg w lo hi Φ) (ho:Only S w w') (hS:∀ q,lo≤q→q<hi→¬ S q):Reg w' lo hi Φ:=
 ⟨h.le,Nat.le_trans h.size ho.size,h.keep w w' h.now (fun q q1 q2=>ho.block q (by have:=h.size;omega) (hS q q1 q2)),h.keep⟩
theorem Reg.below {w w':World} {lo hi:Nat} {Φ:World→Prop} (h:Reg w lo hi Φ) (hb:Below w.heap.size w w'):Reg w' lo hi Φ:=
 h.only (Only.of_below (S:=fun _=>False) hb) (fun _ _ _ h=>h)
theorem Reg.apart {w w':World} {lo hi a b:Nat} {Φ:World→Prop} (h:Reg w lo hi Φ) (ho:Only (fun q=>a≤q∧q<b) w w') (hd:hi≤a∨b≤lo):Reg w' lo hi Φ:=
 h.only ho (fun q _ _ hs=>by omega)
theorem belowRegion {w0 w w':World} {a b:Nat} (h:Below w0.heap.size w0 w) (ho:Only (fun q=>a≤q∧q<b) w w') (ha:w0.heap.size≤a):Below w0.heap.size w0 w':=
 h.trans (ho.below h.size (fun k hk=>by omega))
def IntsR (lo hi:Nat) (A:Option Addr) (zs:List Int) (w:World):Prop:=
 0<zs.length→∃ b o,A=some ⟨b,o,none⟩∧lo≤b∧b<hi∧∀ j x,zs[j]? = some x→w.cell? ⟨b,o+j,none⟩=some (.int .i64 x)∧w.frozen? ⟨b,o+j,none⟩=false
theorem IntsR.keep {lo hi:Nat} {A:Option Addr} {zs:List Int} {w1 w2:World} (h:IntsR lo hi A zs w1) (hb:∀ q,lo≤q→q<hi→w2.heap[q]? = w1.heap[q]?):IntsR lo hi A zs w2:=fun hn=>by
 obtain ⟨b,o,e,h1,h2,hc⟩:=h hn
 have:=hb b h1 h2
 exact ⟨b,o,e,h1,h2,fun j x hx=>⟨(World.cell?_of_block (a:=⟨b,_,none⟩) this).trans (hc j x hx).1,(World.frozen?_of_block (a:=⟨b,_,none⟩) this).trans (hc j x hx).2⟩⟩
theorem IntsM.reg {w:World} {B:Nat} {A:Option Addr} {zs:List Int} (h:IntsM w B A zs) (hB:B≤w.heap.size):Reg w B w.heap.size (IntsR B w.heap.size A zs):=
 ⟨hB,Nat.le_refl _,fun hn=>by obtain ⟨b,o,e,h1,h2,hc⟩:=h hn;exact ⟨b,o,e,h1,h2,hc⟩,fun _ _ h hb=>h.keep hb⟩
theorem regIntsM {w:World} {lo hi:Nat} {A:Option Addr} {zs:List Int} (h:Reg w lo hi (IntsR lo hi A zs)):IntsM w lo A zs:=fun hn=>by
 obtain ⟨b,o,e,h1,h2,hc⟩:=h.now hn
 exact ⟨b,o,e,h1,Nat.lt_of_lt_of_le h2 h.size,hc⟩
theorem regInts {w:World} {lo hi:Nat} {A:Option Addr} {zs:List Int} (h:Reg w lo hi (IntsR lo hi A zs)):Ints w A zs:=(regIntsM h).ints
theorem markR {lo hi:Nat} {A:Option Addr} (cap:Nat) {zs:List Int} {k:Int} {w:World} (h:Reg w lo hi (IntsR lo hi A zs)) (hn:zs.length≤4194304) (k0:0≤k) (k1:k≤1000000000000) :
  Calls Tryz.prog 17 #[.slice A zs.length cap,.int .i64 k] w fun e w'=>
   e=.returned (.int .i64 (k+zs.length))∧Reg w' lo hi (IntsR lo hi A (markL zs.length k))∧Only (fun q=>lo≤q∧q<hi) w w':=
 (mark_any lo A cap zs k w (regIntsM h) hn k0 k1).mono fun e w' ⟨he,hM,hO⟩=>by
  have hin:∀ q,InB zs.length A q→lo≤q∧q<hi:=fun q ⟨hq,o,e'⟩=>by
   obtain ⟨b,o',e,h1,h2,_⟩:=h.now hq
   rw [e] at e'
   obtain ⟨rfl,rfl⟩:b=q∧o'=o:=by simpa using e'
   exact ⟨h1,h2⟩
  refine ⟨he,⟨h.le,Nat.le_trans h.size hO.size,fun hn'=>?_,fun _ _ h hb=>h.keep hb⟩,⟨hO.os,hO.tape,hO.output,hO.size,fun q hq hs=>hO.block q hq (fun hi=>hs (hin q hi))⟩⟩
  obtain ⟨b,o,e',h1,_,hc⟩:=hM hn'
  have:=hin b ⟨by rw [markL_length] at hn';exact hn',o,e'⟩
  exact ⟨b,o,e',h1,this.2,hc⟩
theorem heldR {lo hi:Nat} {A:Option Addr} (cap:Nat) {n:Nat} {k:Int} {w:World} (h:Reg w lo hi (IntsR lo hi A (markL n k))) (hn:n≤4194304) (k0:0≤k) (k1:k≤1000000000000) :
  Calls Tryz.prog 18 #[.slice A n cap,.int .i64 k] w fun e w'=>e=.returned (.int .i64 (k+n))∧w=w':=
 held_any A cap n k w (regInts h) hn k0 k1
theorem eqR {A A':Option Addr} (cap cap':Nat) {zs:List Int} {w:World} (h:Ints w A zs) (h':Ints w A' zs) (hn:zs.length≤4611686018427387904) :
  Calls Tryz.prog 14 #[.slice A zs.length cap,.slice A' zs.length cap'] w fun e w'=>e=.returned (.bool true)∧Below w.heap.size w w':=
 (eqInts A A' cap cap' zs w h h' hn).mono fun _ _ ⟨he,hd⟩=>⟨he,hd.below _⟩
end
section
open Go.RowKit Plain
def tot:List (List Int)→Nat
 | []=>0
 | zs :: r=>zs.length+tot r
theorem tot_append (a b:List (List Int)):tot (a++b)=tot a+tot b:=by
 induction a with
 | nil=>simp [tot]
 | cons x a ih=>simp only [List.cons_append,tot,ih];omega
theorem tot_take_succ {zss:List (List Int)} {k:Nat} {zs:List Int} (h:zss[k]? = some zs):tot (zss.take (k+1))=tot (zss.take k)+zs.length:=by
 rw [take_snoc' zss k zs h,tot_append];simp [tot]
theorem tot_take_le (zss:List (List Int)) (k:Nat):tot (zss.take k)≤tot zss:=by
 have:=tot_append (zss.take k) (zss.drop k)
 rw [List.take_append_drop] at this
 omega
theorem len_le_tot {zss:List (List Int)} {k:Nat} {zs:List Int} (h:zss[k]? = some zs):zs.length≤tot zss:=by
 have h1:=tot_take_succ h
 have h2:=tot_take_le zss (k+1)
 omega
end
section
open Go.RowKit Plain
end
section
open Go.RowKit Plain
end
section
open Go.ChangeShapes Go.WideShapes Go.ChangeAt Go.RowKit Plain
end
section
open Go.RowKit Plain
abbrev RI (w:World) (lo hi:Nat) (A:Option Addr) (zs:List Int):Prop:=Reg w lo hi (IntsR lo hi A zs)
theorem regBox {w:World} {b:Nat} {t:TypeId} {C:List Value} (h:Cells w b t C):Reg w b (b+1) (fun w'=>Cells w' b t C):=
 ⟨by omega,h.lt,h,fun w1 w2 h1 hb=>(hb b (Nat.le_refl _) (by omega)).trans h1⟩
theorem keepC {w w':World} {p:Addr} {u:Value} (h:w.cell? p=some u) (hb:Below w.heap.size w w'):w'.cell? p=some u:=
 (hb.cell (World.block_lt_of_cell? _ _ h)).trans h
end
end Go.Proofs.YtgfkglhelfkpoaaGreat
